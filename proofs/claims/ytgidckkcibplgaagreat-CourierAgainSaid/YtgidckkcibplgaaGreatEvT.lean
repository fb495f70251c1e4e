/- An evaluator of the model's code: what comes before what in a region. -/
import Derived.Test.YtgidckkcibplgaaGreatEvR
set_option linter.unusedVariables false
set_option linter.unusedSimpArgs false
namespace Go.Ev
theorem bitB_eq (m i : Nat) : bitB m i = m.testBit i := by
  unfold bitB
  rw [beq_eq, Nat.testBit_eq_decide_div_mod_eq]
  have : Nat.land (Nat.shiftRight m i) 1 = m / 2 ^ i % 2 := by
    show (m >>> i) &&& 1 = _
    rw [Nat.and_one_is_mod, Nat.shiftRight_eq_div_pow]
  rw [this]
theorem bindsB_eq (e : Edge) : bindsB e = Region.binds .any e := by
  unfold bindsB Region.binds
  cases e.ground <;> rfl
theorem nthN_zero (x : Nat) (l : List Nat) : nthN (x :: l) 0 = x := rfl
theorem nthN_succ (x : Nat) (l : List Nat) (i : Nat) : nthN (x :: l) (i + 1) = nthN l i := rfl
theorem nthN_eq : ∀ (l : List Nat) (i : Nat), nthN l i = l.getD i 0
  | [], i => by simp [nthN]
  | x :: l, 0 => rfl
  | x :: l, i + 1 => by rw [nthN_succ, nthN_eq l i]; simp
theorem maskOf_bit {acc : List Nat} {i : Nat} : ∀ {l : List Edge}, (maskOf acc l).testBit i = true → ∃ e ∈ l, Region.binds .any e = true ∧ (e.on = i ∨ (nthN acc e.on).testBit i = true)
  | [], h => by simp [maskOf] at h
  | e :: l, h => by
    change (bif bindsB e then Nat.lor (Nat.lor (Nat.pow 2 e.on) (nthN acc e.on)) (maskOf acc l) else maskOf acc l).testBit i = true at h
    cases hb : bindsB e with
    | false =>
      rw [hb] at h
      obtain ⟨e', h1, h2⟩ := maskOf_bit h
      exact ⟨e', List.mem_cons_of_mem _ h1, h2⟩
    | true =>
      rw [hb] at h
      simp only [cond_true] at h
      have h : ((2 ^ e.on ||| nthN acc e.on) ||| maskOf acc l).testBit i = true := h
      rw [Nat.testBit_or, Nat.testBit_or, Bool.or_eq_true, Bool.or_eq_true] at h
      rcases h with (h | h) | h
      · refine ⟨e, List.mem_cons_self, by rw [← bindsB_eq]; exact hb, .inl ?_⟩
        rw [Nat.testBit_two_pow] at h
        simpa using h
      · exact ⟨e, List.mem_cons_self, by rw [← bindsB_eq]; exact hb, .inr h⟩
      · obtain ⟨e', h1, h2⟩ := maskOf_bit h
        exact ⟨e', List.mem_cons_of_mem _ h1, h2⟩
theorem masks_keep : ∀ (l : List Oper) (acc : List Nat) (i : Nat), i < acc.length → nthN (masks l acc) i = nthN acc i
  | [], acc, i, h => rfl
  | o :: l, acc, i, h => by
    show nthN (masks l (acc ++ [maskOf acc o.after.toList])) i = _
    rw [masks_keep l _ i (by simp; omega), nthN_eq, nthN_eq]
    simp [List.getD, List.getElem?_append_left h]
theorem masks_at : ∀ (l pre : List Oper) (acc : List Nat), acc.length = pre.length → ∀ (j : Nat) (o : Oper), l[j]? = some o →
    ∃ acc', acc'.length = pre.length + j ∧ nthN (masks l acc) (pre.length + j) = maskOf acc' o.after.toList ∧ ∀ i, i < pre.length + j → nthN acc' i = nthN (masks l acc) i
  | [], pre, acc, ha, j, o, h => by simp at h
  | p :: l, pre, acc, ha, 0, o, h => by
    simp at h; subst h
    refine ⟨acc, by simpa using ha, ?_, fun i hi => ?_⟩
    · show nthN (masks l (acc ++ [maskOf acc p.after.toList])) _ = _
      rw [masks_keep l _ _ (by simp; omega), nthN_eq]
      simp [List.getD, ← ha]
    · show _ = nthN (masks l (acc ++ [maskOf acc p.after.toList])) _
      rw [masks_keep l _ _ (by simp; omega), nthN_eq, nthN_eq]
      simp [List.getD, List.getElem?_append_left (show i < acc.length by omega)]
  | p :: l, pre, acc, ha, j + 1, o, h => by
    obtain ⟨acc', h1, h2, h3⟩ := masks_at l (pre ++ [p]) (acc ++ [maskOf acc p.after.toList]) (by simp [ha]) j o (by simpa using h)
    have e1 : (pre ++ [p]).length + j = pre.length + (j + 1) := by simp; omega
    rw [e1] at h1 h2 h3
    exact ⟨acc', h1, h2, h3⟩
theorem edgesIn_ok {n : Nat} : ∀ {l : List Edge}, edgesIn n l = true → ∀ e ∈ l, Region.binds .any e = true → e.on < n
  | [], h, e, he, hb => by cases he
  | x :: l, h, e, he, hb => by
    change (bif bindsB x then (bif Nat.ble (x.on + 1) n then edgesIn n l else false) else edgesIn n l) = true at h
    cases hx : bindsB x with
    | true =>
      rw [hx] at h
      simp only [cond_true] at h
      cases hn : Nat.ble (x.on + 1) n with
      | false => rw [hn] at h; cases h
      | true =>
        rw [hn] at h
        rcases List.mem_cons.1 he with rfl | he
        · exact Nat.le_of_ble_eq_true hn
        · exact edgesIn_ok h e he hb
    | false =>
      rw [hx] at h
      rcases List.mem_cons.1 he with rfl | he
      · rw [bindsB_eq, hb] at hx; cases hx
      · exact edgesIn_ok h e he hb
theorem edgesOk_ok : ∀ {l : List Oper} {i : Nat}, edgesOk l i = true → ∀ j o, l[j]? = some o → ∀ e ∈ o.after, Region.binds .any e = true → e.on < i + j
  | [], i, h, j, o, ho, e, he, hb => by simp at ho
  | p :: l, i, h, j, o, ho, e, he, hb => by
    change (bif edgesIn i p.after.toList then edgesOk l (i + 1) else false) = true at h
    cases hp : edgesIn i p.after.toList with
    | false => rw [hp] at h; cases h
    | true =>
      rw [hp] at h
      cases j with
      | zero => simp at ho; subst ho; simpa using edgesIn_ok hp e (by simpa using he) hb
      | succ j => have := edgesOk_ok h j o (by simpa using ho) e he hb; omega
theorem memN_ok {x : Nat} : ∀ {l : List Nat}, x ∈ l → memN x l = true
  | [], h => by cases h
  | y :: l, h => by
    show (bif Nat.beq x y then true else memN x l) = true
    rcases List.mem_cons.1 h with rfl | h
    · rw [beq_eq]; simp
    · rw [memN_ok h]; cases Nat.beq x y <;> rfl
/-- What is asked of two operations. -/
structure Pair (o : Oper) (lk : List Nat) (m j : Nat) (p : Oper) (i : Nat) : Prop where
  look : ∀ d, p.dst = some d → d ∈ lk → m.testBit i = true
  dst : ∀ d, o.dst = some d → p.dst ≠ some d
  eff : i < j → cls o.op = 3 → cls p.op = 3 → m.testBit i = true
theorem pairOk_ok {o : Oper} {lk : List Nat} {m j : Nat} : ∀ {l : List Oper} {n : Nat}, pairOk lk o.dst (cls o.op) m j l n = true → ∀ i p, l[i]? = some p → n + i ≠ j → Pair o lk m j p (n + i)
  | [], n, h, i, p, hp, hne => by simp at hp
  | q :: l, n, h, i, p, hp, hne => by
    change (bif Nat.beq n j then pairOk lk o.dst (cls o.op) m j l (n + 1) else
      bif (match q.dst with | some e => (bif memN e lk && not (bitB m n) then false else (match o.dst with | some d => not (Nat.beq d e) | none => true)) | none => true) &&
        not (Nat.ble (n + 1) j && Nat.beq (cls o.op) 3 && Nat.beq (cls q.op) 3 && not (bitB m n)) then pairOk lk o.dst (cls o.op) m j l (n + 1) else false) = true at h
    have hrest : pairOk lk o.dst (cls o.op) m j l (n + 1) = true := by
      revert h
      cases Nat.beq n j with
      | true => exact id
      | false =>
        intro h
        simp only [cond_false] at h
        revert h
        generalize ((match q.dst with | some e => (bif memN e lk && not (bitB m n) then false else (match o.dst with | some d => not (Nat.beq d e) | none => true)) | none => true) && not (Nat.ble (n + 1) j && Nat.beq (cls o.op) 3 && Nat.beq (cls q.op) 3 && not (bitB m n))) = c
        cases c with
        | true => exact id
        | false => intro h; cases h
    cases i with
    | succ i =>
      have := pairOk_ok (n := n + 1) hrest i p (by simpa using hp) (by omega)
      rw [show n + (i + 1) = n + 1 + i by omega]; exact this
    | zero =>
      simp at hp
      subst hp
      have hnj : Nat.beq n j = false := by rw [beq_eq]; simp; omega
      rw [hnj] at h
      simp only [cond_false] at h
      generalize hc : ((match q.dst with | some e => (bif memN e lk && not (bitB m n) then false else (match o.dst with | some d => not (Nat.beq d e) | none => true)) | none => true) && not (Nat.ble (n + 1) j && Nat.beq (cls o.op) 3 && Nat.beq (cls q.op) 3 && not (bitB m n))) = c at h
      cases c with
      | false => cases h
      | true =>
        obtain ⟨g1, g2⟩ := and2 hc
        refine ⟨fun d hd hm => ?_, fun d ho hd => ?_, fun hlt h1 h2 => ?_⟩
        · rw [hd] at g1
          simp only [memN_ok hm, bitB_eq, Bool.true_and] at g1
          cases hb : m.testBit (n + 0) with
          | true => rfl
          | false => rw [Nat.add_zero] at hb; rw [hb] at g1; cases g1
        · rw [hd, ho] at g1
          dsimp only at g1
          rw [beq_eq] at g1
          revert g1
          cases (memN d lk && !bitB m n) <;> simp
        · rw [h1, h2, ble_eq, beq_eq, bitB_eq] at g2
          simpa [show n + 1 ≤ j by omega] using g2
theorem pairsOk_ok {all : List Oper} {mks : List Nat} : ∀ {l : List Oper} {n : Nat}, pairsOk all mks l n = true → ∀ j o, l[j]? = some o → ∀ i p, all[i]? = some p → i ≠ n + j → Pair o (looks all o) (nthN mks (n + j)) (n + j) p i
  | [], n, h, j, o, ho, i, p, hp, hne => by simp at ho
  | q :: l, n, h, j, o, ho, i, p, hp, hne => by
    change (bif pairOk (looks all q) q.dst (cls q.op) (nthN mks n) n all 0 then pairsOk all mks l (n + 1) else false) = true at h
    cases hq : pairOk (looks all q) q.dst (cls q.op) (nthN mks n) n all 0 with
    | false => rw [hq] at h; cases h
    | true =>
      rw [hq] at h
      cases j with
      | zero => simp at ho; subst ho; have := pairOk_ok hq i p hp (by omega); simpa using this
      | succ j =>
        have := pairsOk_ok (n := n + 1) h j o (by simpa using ho) i p hp (by omega)
        rw [show n + (j + 1) = n + 1 + j by omega]; exact this
/-- A region that is followed. -/
structure Drawn (all : List Oper) : Prop where
  edge : ∀ j o, all[j]? = some o → ∀ e ∈ o.after, Region.binds .any e = true → e.on < j
  pair : ∀ j o, all[j]? = some o → ∀ i p, all[i]? = some p → i ≠ j → Pair o (looks all o) (nthN (masks all []) j) j p i
theorem drawOk_ok {all : List Oper} (h : drawOk all = true) : Drawn all := by
  unfold drawOk at h
  cases h1 : edgesOk all 0 with
  | false => rw [h1] at h; cases h
  | true =>
    rw [h1] at h
    exact ⟨fun j o ho e he hb => by simpa using edgesOk_ok h1 j o ho e he hb, fun j o ho i p hp hne => by simpa using pairsOk_ok h j o ho i p hp (by omega)⟩
/-- Every operation that has come up has those before it that it waits for. -/
def Closed (all : List Oper) (L : Nat → Bool) : Prop := ∀ j o, all[j]? = some o → L j = true → ∀ e ∈ o.after, Region.binds .any e = true → L e.on = true
theorem mask_listed {all : List Oper} (hd : Drawn all) {L : Nat → Bool} (cl : Closed all L) : ∀ (n j : Nat) (o : Oper), j < n → all[j]? = some o → (∀ e ∈ o.after, Region.binds .any e = true → L e.on = true) → ∀ i, (nthN (masks all []) j).testBit i = true → L i = true ∧ i < j
  | 0, j, o, hj, ho, hr, i, hi => by omega
  | n + 1, j, o, hj, ho, hr, i, hi => by
    obtain ⟨acc, h1, h2, h3⟩ := masks_at all [] [] rfl j o ho
    simp only [List.length_nil, Nat.zero_add] at h1 h2 h3
    rw [h2] at hi
    obtain ⟨e, he, hb, h4⟩ := maskOf_bit hi
    have he' : e ∈ o.after := by simpa using he
    have hlt := hd.edge j o ho e he' hb
    have hL := hr e he' hb
    rcases h4 with rfl | h4
    · exact ⟨hL, hlt⟩
    · rw [h3 e.on hlt] at h4
      have hlen : e.on < all.length := by have := (List.getElem?_eq_some_iff.1 ho).1; omega
      obtain ⟨o', ho'⟩ : ∃ o', all[e.on]? = some o' := ⟨all[e.on], by simp [hlen]⟩
      obtain ⟨g1, g2⟩ := mask_listed hd cl n e.on o' (by omega) ho' (fun e' he' hb' => cl e.on o' ho' hL e' he' hb') i h4
      exact ⟨g1, by omega⟩
end Go.Ev
