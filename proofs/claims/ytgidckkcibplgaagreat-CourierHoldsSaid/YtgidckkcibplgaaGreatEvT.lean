/- An evaluator of the model's code: what comes before what in a region. An evaluator of the model's code: what an operation leans on. An evaluator of the model's code: operations that leave memory as it is, operations that make a block. -/
import Derived.Test.YtgidckkcibplgaaGreatEvQ
set_option linter.unusedVariables false
set_option linter.unusedSimpArgs false
namespace Go.Ev
theorem bitB_eq (m i : Nat) : bitB m i = m.testBit i := by
  unfold bitB
  rw [beq_eq, Nat.testBit_eq_decide_div_mod_eq]
  have : Nat.land (Nat.shiftRight m i) 1 = m / 2 ^ i % 2 := by
    show (m >>> i) &&& 1 = _
    rw [Nat.and_one_is_mod, Nat.shiftRight_eq_div_pow]
  rw [this]
theorem bindsB_eq (e : Edge) : bindsB e = Region.binds .any e := by
  unfold bindsB Region.binds
  cases e.ground <;> rfl
theorem nthN_zero (x : Nat) (l : List Nat) : nthN (x :: l) 0 = x := rfl
theorem nthN_succ (x : Nat) (l : List Nat) (i : Nat) : nthN (x :: l) (i + 1) = nthN l i := rfl
theorem nthN_eq : ∀ (l : List Nat) (i : Nat), nthN l i = l.getD i 0
  | [], i => by simp [nthN]
  | x :: l, 0 => rfl
  | x :: l, i + 1 => by rw [nthN_succ, nthN_eq l i]; simp
theorem maskOf_bit {acc : List Nat} {i : Nat} : ∀ {l : List Edge}, (maskOf acc l).testBit i = true → ∃ e ∈ l, Region.binds .any e = true ∧ (e.on = i ∨ (nthN acc e.on).testBit i = true)
  | [], h => by simp [maskOf] at h
  | e :: l, h => by
    change (bif bindsB e then Nat.lor (Nat.lor (Nat.pow 2 e.on) (nthN acc e.on)) (maskOf acc l) else maskOf acc l).testBit i = true at h
    cases hb : bindsB e with
    | false =>
      rw [hb] at h
      obtain ⟨e', h1, h2⟩ := maskOf_bit h
      exact ⟨e', List.mem_cons_of_mem _ h1, h2⟩
    | true =>
      rw [hb] at h
      simp only [cond_true] at h
      have h : ((2 ^ e.on ||| nthN acc e.on) ||| maskOf acc l).testBit i = true := h
      rw [Nat.testBit_or, Nat.testBit_or, Bool.or_eq_true, Bool.or_eq_true] at h
      rcases h with (h | h) | h
      · refine ⟨e, List.mem_cons_self, by rw [← bindsB_eq]; exact hb, .inl ?_⟩
        rw [Nat.testBit_two_pow] at h
        simpa using h
      · exact ⟨e, List.mem_cons_self, by rw [← bindsB_eq]; exact hb, .inr h⟩
      · obtain ⟨e', h1, h2⟩ := maskOf_bit h
        exact ⟨e', List.mem_cons_of_mem _ h1, h2⟩
theorem masks_keep : ∀ (l : List Oper) (acc : List Nat) (i : Nat), i < acc.length → nthN (masks l acc) i = nthN acc i
  | [], acc, i, h => rfl
  | o :: l, acc, i, h => by
    show nthN (masks l (acc ++ [maskOf acc o.after.toList])) i = _
    rw [masks_keep l _ i (by simp; omega), nthN_eq, nthN_eq]
    simp [List.getD, List.getElem?_append_left h]
theorem masks_at : ∀ (l pre : List Oper) (acc : List Nat), acc.length = pre.length → ∀ (j : Nat) (o : Oper), l[j]? = some o →
    ∃ acc', acc'.length = pre.length + j ∧ nthN (masks l acc) (pre.length + j) = maskOf acc' o.after.toList ∧ ∀ i, i < pre.length + j → nthN acc' i = nthN (masks l acc) i
  | [], pre, acc, ha, j, o, h => by simp at h
  | p :: l, pre, acc, ha, 0, o, h => by
    simp at h; subst h
    refine ⟨acc, by simpa using ha, ?_, fun i hi => ?_⟩
    · show nthN (masks l (acc ++ [maskOf acc p.after.toList])) _ = _
      rw [masks_keep l _ _ (by simp; omega), nthN_eq]
      simp [List.getD, ← ha]
    · show _ = nthN (masks l (acc ++ [maskOf acc p.after.toList])) _
      rw [masks_keep l _ _ (by simp; omega), nthN_eq, nthN_eq]
      simp [List.getD, List.getElem?_append_left (show i < acc.length by omega)]
  | p :: l, pre, acc, ha, j + 1, o, h => by
    obtain ⟨acc', h1, h2, h3⟩ := masks_at l (pre ++ [p]) (acc ++ [maskOf acc p.after.toList]) (by simp [ha]) j o (by simpa using h)
    have e1 : (pre ++ [p]).length + j = pre.length + (j + 1) := by simp; omega
    rw [e1] at h1 h2 h3
    exact ⟨acc', h1, h2, h3⟩
theorem edgesIn_ok {n : Nat} : ∀ {l : List Edge}, edgesIn n l = true → ∀ e ∈ l, Region.binds .any e = true → e.on < n
  | [], h, e, he, hb => by cases he
  | x :: l, h, e, he, hb => by
    change (bif bindsB x then (bif Nat.ble (x.on + 1) n then edgesIn n l else false) else edgesIn n l) = true at h
    cases hx : bindsB x with
    | true =>
      rw [hx] at h
      simp only [cond_true] at h
      cases hn : Nat.ble (x.on + 1) n with
      | false => rw [hn] at h; cases h
      | true =>
        rw [hn] at h
        rcases List.mem_cons.1 he with rfl | he
        · exact Nat.le_of_ble_eq_true hn
        · exact edgesIn_ok h e he hb
    | false =>
      rw [hx] at h
      rcases List.mem_cons.1 he with rfl | he
      · rw [bindsB_eq, hb] at hx; cases hx
      · exact edgesIn_ok h e he hb
theorem edgesOk_ok : ∀ {l : List Oper} {i : Nat}, edgesOk l i = true → ∀ j o, l[j]? = some o → ∀ e ∈ o.after, Region.binds .any e = true → e.on < i + j
  | [], i, h, j, o, ho, e, he, hb => by simp at ho
  | p :: l, i, h, j, o, ho, e, he, hb => by
    change (bif edgesIn i p.after.toList then edgesOk l (i + 1) else false) = true at h
    cases hp : edgesIn i p.after.toList with
    | false => rw [hp] at h; cases h
    | true =>
      rw [hp] at h
      cases j with
      | zero => simp at ho; subst ho; simpa using edgesIn_ok hp e (by simpa using he) hb
      | succ j => have := edgesOk_ok h j o (by simpa using ho) e he hb; omega
theorem memN_ok {x : Nat} : ∀ {l : List Nat}, x ∈ l → memN x l = true
  | [], h => by cases h
  | y :: l, h => by
    show (bif Nat.beq x y then true else memN x l) = true
    rcases List.mem_cons.1 h with rfl | h
    · rw [beq_eq]; simp
    · rw [memN_ok h]; cases Nat.beq x y <;> rfl
/-- What is asked of two operations. -/
structure Pair (o : Oper) (lk : List Nat) (m j : Nat) (p : Oper) (i : Nat) : Prop where
  look : ∀ d, p.dst = some d → d ∈ lk → m.testBit i = true
  dst : ∀ d, o.dst = some d → p.dst ≠ some d
  eff : i < j → cls o.op = 3 → cls p.op = 3 → m.testBit i = true
theorem pairOk_ok {o : Oper} {lk : List Nat} {m j : Nat} : ∀ {l : List Oper} {n : Nat}, pairOk lk o.dst (cls o.op) m j l n = true → ∀ i p, l[i]? = some p → n + i ≠ j → Pair o lk m j p (n + i)
  | [], n, h, i, p, hp, hne => by simp at hp
  | q :: l, n, h, i, p, hp, hne => by
    change (bif Nat.beq n j then pairOk lk o.dst (cls o.op) m j l (n + 1) else
      bif (match q.dst with | some e => (bif memN e lk && not (bitB m n) then false else (match o.dst with | some d => not (Nat.beq d e) | none => true)) | none => true) &&
        not (Nat.ble (n + 1) j && Nat.beq (cls o.op) 3 && Nat.beq (cls q.op) 3 && not (bitB m n)) then pairOk lk o.dst (cls o.op) m j l (n + 1) else false) = true at h
    have hrest : pairOk lk o.dst (cls o.op) m j l (n + 1) = true := by
      revert h
      cases Nat.beq n j with
      | true => exact id
      | false =>
        intro h
        simp only [cond_false] at h
        revert h
        generalize ((match q.dst with | some e => (bif memN e lk && not (bitB m n) then false else (match o.dst with | some d => not (Nat.beq d e) | none => true)) | none => true) && not (Nat.ble (n + 1) j && Nat.beq (cls o.op) 3 && Nat.beq (cls q.op) 3 && not (bitB m n))) = c
        cases c with
        | true => exact id
        | false => intro h; cases h
    cases i with
    | succ i =>
      have := pairOk_ok (n := n + 1) hrest i p (by simpa using hp) (by omega)
      rw [show n + (i + 1) = n + 1 + i by omega]; exact this
    | zero =>
      simp at hp
      subst hp
      have hnj : Nat.beq n j = false := by rw [beq_eq]; simp; omega
      rw [hnj] at h
      simp only [cond_false] at h
      generalize hc : ((match q.dst with | some e => (bif memN e lk && not (bitB m n) then false else (match o.dst with | some d => not (Nat.beq d e) | none => true)) | none => true) && not (Nat.ble (n + 1) j && Nat.beq (cls o.op) 3 && Nat.beq (cls q.op) 3 && not (bitB m n))) = c at h
      cases c with
      | false => cases h
      | true =>
        obtain ⟨g1, g2⟩ := and2 hc
        refine ⟨fun d hd hm => ?_, fun d ho hd => ?_, fun hlt h1 h2 => ?_⟩
        · rw [hd] at g1
          simp only [memN_ok hm, bitB_eq, Bool.true_and] at g1
          cases hb : m.testBit (n + 0) with
          | true => rfl
          | false => rw [Nat.add_zero] at hb; rw [hb] at g1; cases g1
        · rw [hd, ho] at g1
          dsimp only at g1
          rw [beq_eq] at g1
          revert g1
          cases (memN d lk && !bitB m n) <;> simp
        · rw [h1, h2, ble_eq, beq_eq, bitB_eq] at g2
          simpa [show n + 1 ≤ j by omega] using g2
theorem pairsOk_ok {all : List Oper} {mks : List Nat} : ∀ {l : List Oper} {n : Nat}, pairsOk all mks l n = true → ∀ j o, l[j]? = some o → ∀ i p, all[i]? = some p → i ≠ n + j → Pair o (looks all o) (nthN mks (n + j)) (n + j) p i
  | [], n, h, j, o, ho, i, p, hp, hne => by simp at ho
  | q :: l, n, h, j, o, ho, i, p, hp, hne => by
    change (bif pairOk (looks all q) q.dst (cls q.op) (nthN mks n) n all 0 then pairsOk all mks l (n + 1) else false) = true at h
    cases hq : pairOk (looks all q) q.dst (cls q.op) (nthN mks n) n all 0 with
    | false => rw [hq] at h; cases h
    | true =>
      rw [hq] at h
      cases j with
      | zero => simp at ho; subst ho; have := pairOk_ok hq i p hp (by omega); simpa using this
      | succ j =>
        have := pairsOk_ok (n := n + 1) h j o (by simpa using ho) i p hp (by omega)
        rw [show n + (j + 1) = n + 1 + j by omega]; exact this
/-- A region that is followed. -/
structure Drawn (all : List Oper) : Prop where
  edge : ∀ j o, all[j]? = some o → ∀ e ∈ o.after, Region.binds .any e = true → e.on < j
  pair : ∀ j o, all[j]? = some o → ∀ i p, all[i]? = some p → i ≠ j → Pair o (looks all o) (nthN (masks all []) j) j p i
theorem drawOk_ok {all : List Oper} (h : drawOk all = true) : Drawn all := by
  unfold drawOk at h
  cases h1 : edgesOk all 0 with
  | false => rw [h1] at h; cases h
  | true =>
    rw [h1] at h
    exact ⟨fun j o ho e he hb => by simpa using edgesOk_ok h1 j o ho e he hb, fun j o ho i p hp hne => by simpa using pairsOk_ok h j o ho i p hp (by omega)⟩
/-- Every operation that has come up has those before it that it waits for. -/
def Closed (all : List Oper) (L : Nat → Bool) : Prop := ∀ j o, all[j]? = some o → L j = true → ∀ e ∈ o.after, Region.binds .any e = true → L e.on = true
theorem mask_listed {all : List Oper} (hd : Drawn all) {L : Nat → Bool} (cl : Closed all L) : ∀ (n j : Nat) (o : Oper), j < n → all[j]? = some o → (∀ e ∈ o.after, Region.binds .any e = true → L e.on = true) → ∀ i, (nthN (masks all []) j).testBit i = true → L i = true ∧ i < j
  | 0, j, o, hj, ho, hr, i, hi => by omega
  | n + 1, j, o, hj, ho, hr, i, hi => by
    obtain ⟨acc, h1, h2, h3⟩ := masks_at all [] [] rfl j o ho
    simp only [List.length_nil, Nat.zero_add] at h1 h2 h3
    rw [h2] at hi
    obtain ⟨e, he, hb, h4⟩ := maskOf_bit hi
    have he' : e ∈ o.after := by simpa using he
    have hlt := hd.edge j o ho e he' hb
    have hL := hr e he' hb
    rcases h4 with rfl | h4
    · exact ⟨hL, hlt⟩
    · rw [h3 e.on hlt] at h4
      have hlen : e.on < all.length := by have := (List.getElem?_eq_some_iff.1 ho).1; omega
      obtain ⟨o', ho'⟩ : ∃ o', all[e.on]? = some o' := ⟨all[e.on], by simp [hlen]⟩
      obtain ⟨g1, g2⟩ := mask_listed hd cl n e.on o' (by omega) ho' (fun e' he' hb' => cl e.on o' ho' hL e' he' hb') i h4
      exact ⟨g1, by omega⟩
end Go.Ev
namespace Go.Ev
variable {D : List Deferred}
variable {P : Program} {pr : Prims} {ih : Rn} {e : Env} {t t' : T V} {h : H} {s : Nat} {w : World} {a : Act} {r : RO} {k : K} {o : Oper}
theorem ceq_ok {x y : V} (h : ceq x y = true) : x = y := by
  unfold ceq at h
  split at h
  · rename_i k1 a k2 b
    cases hk : keq k1 k2 with
    | false => rw [hk] at h; cases h
    | true =>
      rw [hk] at h
      rw [keq_eq hk]
      simp only [cond_true, ieq_eq] at h
      have : a = b := by simpa using h
      rw [this]
  · rename_i a b; cases a <;> cases b <;> first | rfl | cases h
  · rw [ba_eq h]
  · rfl
  · obtain ⟨h1, h2⟩ := and2 h; rw [Nat.eq_of_beq_eq_true h1, Nat.eq_of_beq_eq_true h2]
  · rfl
  · obtain ⟨h1, h4⟩ := and2 h; obtain ⟨h1, h2, h3⟩ := and3 h1; rw [Nat.eq_of_beq_eq_true h1, Nat.eq_of_beq_eq_true h2, Nat.eq_of_beq_eq_true h3, Nat.eq_of_beq_eq_true h4]
  · obtain ⟨h1, h4⟩ := and2 h; obtain ⟨h1, h2, h3⟩ := and3 h1; rw [Nat.eq_of_beq_eq_true h1, Nat.eq_of_beq_eq_true h2, Nat.eq_of_beq_eq_true h3, Nat.eq_of_beq_eq_true h4]
  · rfl
  · rw [Nat.eq_of_beq_eq_true h]
  · rfl
  · rw [Nat.eq_of_beq_eq_true h]
  · rfl
  · rename_i k1 a k2 b
    cases hk : keq k1 k2 with
    | false => rw [hk] at h; cases h
    | true => rw [hk] at h; rw [keq_eq hk, sxeq_eq h]
  · rw [sxeqs_eq h]
  · obtain ⟨h1, h2, h3⟩ := and3 h; rw [Nat.eq_of_beq_eq_true h1, Nat.eq_of_beq_eq_true h2, Nat.eq_of_beq_eq_true h3]
  · obtain ⟨h1, h2⟩ := and2 h; rw [Nat.eq_of_beq_eq_true h1, Nat.eq_of_beq_eq_true h2]
  · obtain ⟨h1, h2⟩ := and2 h; rw [Nat.eq_of_beq_eq_true h1, Nat.eq_of_beq_eq_true h2]
  · rename_i k1 a b k2 a2 b2
    obtain ⟨h1, h2, h3⟩ := and3 h
    rw [ieq_eq] at h2 h3
    have e1 : a = a2 := by simpa using h2
    have e2 : b = b2 := by simpa using h3
    rw [keq_eq h1, e1, e2]
  · rfl
  · cases h
theorem ceqs_ok : ∀ {l m : List V}, ceqs l m = true → l = m
  | [], [], h => rfl
  | [], y :: m, h => by cases h
  | x :: l, [], h => by cases h
  | x :: l, y :: m, h => by
    change (bif ceq x y then ceqs l m else false) = true at h
    cases hc : ceq x y with
    | false => rw [hc] at h; cases h
    | true => rw [hc] at h; rw [ceq_ok hc, ceqs_ok h]
theorem veqB_ok {x y : V} (h : veqB x y = true) : x = y := by
  unfold veqB at h
  split at h
  · rw [ceqs_ok h]
  · rw [ceqs_ok h]
  · rename_i t v u w
    cases hc : Nat.beq t u with
    | false => rw [hc] at h; cases h
    | true => rw [hc] at h; rw [Nat.eq_of_beq_eq_true hc, ceq_ok h]
  · exact ceq_ok h
theorem opnd_congr {x : Operand} (hx : ∀ u, x = .tmp u → t.get un u = t'.get un u) (f : V → RO) : opnd t x f = opnd t' x f := by
  cases x with
  | tmp u => simp only [opnd]; rw [hx u rfl]
  | const v => rfl
  | global g => rfl
  | func f => rfl
theorem opnds_congr : ∀ {l : List Operand}, (∀ x ∈ l, ∀ f, opnd t x f = opnd t' x f) → ∀ f, opnds t l f = opnds t' l f
  | [], _, f => rfl
  | x :: l, hx, f => by
    show opnd t x (fun v => opnds t l (fun vs => f (v :: vs))) = opnd t' x (fun v => opnds t' l (fun vs => f (v :: vs)))
    rw [hx x (by simp)]
    congr 1; funext v
    exact opnds_congr (fun y hy => hx y (by simp [hy])) _
theorem opparts_congr : ∀ {l : List (Nat × Operand)}, (∀ x ∈ l, ∀ f, opnd t x.2 f = opnd t' x.2 f) → ∀ f, opparts t l f = opparts t' l f
  | [], _, f => rfl
  | x :: l, hx, f => by
    show opnd t x.2 (fun v => opparts t l (fun vs => f ((x.1, v) :: vs))) = opnd t' x.2 (fun v => opparts t' l (fun vs => f ((x.1, v) :: vs)))
    rw [hx x (by simp)]
    congr 1; funext v
    exact opparts_congr (fun y hy => hx y (by simp [hy])) _
theorem bound_congr {x : Option Operand} (hx : ∀ y, x = some y → ∀ f, opnd t y f = opnd t' y f) (d : Nat) (f : Nat → RO) : bound t x d f = bound t' x d f := by
  cases x with
  | none => rfl
  | some y => simp only [bound]; rw [hx y rfl]
/-- An operation leans on its operands alone. -/
theorem opF_congr {op : Op} (hA : ∀ x ∈ op.operands.toList, ∀ f, opnd t x f = opnd t' x f) : opF op P pr ih t h s k = opF op P pr ih t' h s k := by
  cases op
  case move x => have h1 := hA x (by simp [Op.operands]); simp only [opF, oMove, h1]
  case assign x => have h1 := hA x (by simp [Op.operands]); simp only [opF, oMove, h1]
  case pick c x y =>
    have h1 := hA c (by simp [Op.operands]); have h2 := hA x (by simp [Op.operands]); have h3 := hA y (by simp [Op.operands])
    simp only [opF, oPick, h1, h2, h3]
  case box e x => have h1 := hA x (by simp [Op.operands]); simp only [opF, oBox, h1]
  case build ty ps =>
    have h1 : ∀ f, opparts t ps.toList f = opparts t' ps.toList f := opparts_congr (fun x hx => hA x.2 (by simp only [Op.operands]; simp; exact ⟨_, by simpa using hx⟩))
    simp only [opF, oBuild, h1]
  case buildSlice ty n ps =>
    have h1 : ∀ f, opparts t ps.toList f = opparts t' ps.toList f := opparts_congr (fun x hx => hA x.2 (by simp only [Op.operands]; simp; exact ⟨_, by simpa using hx⟩))
    simp only [opF, oBuildSlice, h1]
  case load ty x => have h1 := hA x (by simp [Op.operands]); simp only [opF, oLoad, h1]
  case store ty x y => have h1 := hA x (by simp [Op.operands]); have h2 := hA y (by simp [Op.operands]); simp only [opF, oStore, h1, h2]
  case nilCheck x => have h1 := hA x (by simp [Op.operands]); simp only [opF, oNilCheck, h1]
  case binOp op ty x y yt => have h1 := hA x (by simp [Op.operands]); have h2 := hA y (by simp [Op.operands]); simp only [opF, oBin, h1, h2]
  case unOp op ty x => have h1 := hA x (by simp [Op.operands]); simp only [opF, oUn, h1]
  case convert s d x => have h1 := hA x (by simp [Op.operands]); simp only [opF, oConvert, oMark]; cases Nat.beq s d <;> simp only [cond_true, cond_false, oConvert, oMark, h1]
  case makeInterface ty x => have h1 := hA x (by simp [Op.operands]); simp only [opF, oMakeIface, h1]
  case makeFunc fn l m =>
    have h1 : ∀ f, opnds t m.toList f = opnds t' m.toList f := opnds_congr (fun x hx => hA x (by simp only [Op.operands, Array.toList_append, List.mem_append]; exact .inr hx))
    simp only [opF, oMakeFunc, h1]
    split
    · rfl
    · rename_i x hfirst
      have h2 := hA x (by
        simp only [Op.operands, Array.toList_append, List.mem_append]
        exact .inl (by rw [hfirst]; simp))
      simp only [h2]
    · rename_i x hfirst
      have h2 := hA x (by
        simp only [Op.operands, Array.toList_append, List.mem_append]
        exact .inl (by rw [hfirst]; simp))
      simp only [h2]
    · rfl
  case makeSlice ty x y => have h1 := hA x (by simp [Op.operands]); have h2 := hA y (by simp [Op.operands]); simp only [opF, oMakeSlice, h1, h2]
  case slice ty x lo hi mx =>
    have h1 := hA x (by simp [Op.operands])
    have h2 : ∀ d f, bound t lo d f = bound t' lo d f := bound_congr (fun y hy => hA y (by simp [Op.operands, hy]))
    have h3 : ∀ d f, bound t hi d f = bound t' hi d f := bound_congr (fun y hy => hA y (by simp [Op.operands, hy]))
    have h4 : ∀ d f, bound t mx d f = bound t' mx d f := bound_congr (fun y hy => hA y (by simp [Op.operands, hy]))
    simp only [opF, oSlice, h1, h2, h3, h4]
  case fieldAddr ty x i => have h1 := hA x (by simp [Op.operands]); simp only [opF, oFieldAddr, h1]
  case field ty x i => have h1 := hA x (by simp [Op.operands]); simp only [opF, oField, h1]
  case indexAddr ty x y => have h1 := hA x (by simp [Op.operands]); have h2 := hA y (by simp [Op.operands]); simp only [opF, oIndexAddr, h1, h2]
  case index ty x y => have h1 := hA x (by simp [Op.operands]); have h2 := hA y (by simp [Op.operands]); simp only [opF, oIndex, h1, h2]
  case lookup ty x y c => have h1 := hA x (by simp [Op.operands]); have h2 := hA y (by simp [Op.operands]); simp only [opF, oLookup, h1, h2]
  case mapUpdate ty x y z => have h1 := hA x (by simp [Op.operands]); have h2 := hA y (by simp [Op.operands]); have h3 := hA z (by simp [Op.operands]); simp only [opF, oMapUpdate, h1, h2, h3]
  case range ty x => have h1 := hA x (by simp [Op.operands]); simp only [opF, oRange, h1]
  case entry x => have h1 := hA x (by simp [Op.operands]); simp only [opF, oEntry, h1]
  case next x c => have h1 := hA x (by simp [Op.operands]); simp only [opF, oNext, h1]
  case extract x i => have h1 := hA x (by simp [Op.operands]); simp only [opF, oExtract, h1]
  case call c =>
    have h1 : ∀ f, opnds t c.args.toList f = opnds t' c.args.toList f := opnds_congr (fun x hx => hA x (by simp only [Op.operands, Call.operands, Array.toList_append, List.mem_append]; exact .inr hx))
    obtain ⟨cal, args, at_⟩ := c
    cases cal with
    | value x =>
      have h2 := hA x (by simp [Op.operands, Call.operands])
      simp only [opF, oCall, h1, h2]
    | invoke x n =>
      have h2 := hA x (by simp [Op.operands, Call.operands])
      simp only [opF, oCall, h1, h2]
    | builtin b => simp only [opF, oCall, h1]
  all_goals rfl
/-- An operation that reads nothing does not lean on memory. -/
theorem opF_indep {op : Op} (hc : cls op = 0) : opF op P pr ih t h s k = opF op P pr ih t E0 0 (fun v _ _ => k v h s) := by
  cases op <;> first | rfl | (cases hc; done) | skip
  case call c => obtain ⟨cal, args, at_⟩ := c; cases cal with
    | builtin b => cases b <;> cases hc
    | value _ => cases hc
    | invoke _ _ => cases hc
  case convert a b x =>
    cases hq : Nat.beq a b with
    | true => simp [cls, hq] at hc
    | false => simp [cls, hq] at hc
end Go.Ev
namespace Go.Ev
variable {D : List Deferred}
variable {P : Program} {pr : Prims} {ih : Rn} {e : Env} {t t' : T V} {h : H} {s : Nat} {w : World} {a : Act} {r : RO} {k : K} {o : Oper}
theorem builtinP_ok {b : Builtin} {at_ : Array TypeId} {args : List V} {xs : List Value} {ty : TypeId} {cs : Array Bool} (hb : b = .len ∨ b = .cap ∨ b = .max ∨ b = .min) (hk : builtinV b at_ args P h s k = r) (hr : r.good) (hs : Sim e h w) (hx : VRs e args xs) :
    ∃ v z, k v h s = r ∧ VR e v z ∧ (builtin b at_ ty cs ⟨xs⟩).run P w = .ok (.value z) w := by
  rcases hb with rfl | rfl | rfl | rfl
  · simp only [builtinV] at hk
    split at hk
    · rename_i tt rest x hat
      have h0 : at_[0]? = some tt := by rw [← Array.getElem?_toList, hat]; rfl
      cases hx with
      | cons hx ht => cases ht with
        | nil =>
          cases hl : lenOk P tt x with
          | true =>
            rw [hl] at hk
            simp only [cond_true] at hk
            obtain ⟨n, g1, g2⟩ := lenV_ok (ty := ty) hk hr hs hx h0 hl
            exact ⟨_, _, g1, .int _ _, run_v g2⟩
          | false =>
            rw [hl] at hk
            simp only [cond_false] at hk
            split at hk
            · rename_i hu
              cases hx with
              | @usl b l c _ _ h1 h2 =>
                exact ⟨_, .int .i64 (l : Int), hk, .iv (Int.ofNat_le.2 h1) (Int.ofNat_le.2 h2), run_v (by simp [Builtin.len_, h0, run_under hu, Result.andThen, goInt])⟩
            · rename_i hu
              cases hx with
              | @xsu _ _ a0 b l c0 c h1 h2 h3 =>
                exact ⟨_, .int .i64 (l : Int), hk, .iv (Int.natCast_nonneg _) (Int.ofNat_le.2 h2), run_v (by simp [Builtin.len_, h0, run_under hu, Result.andThen, goInt])⟩
            · subst hk; cases hr
    · subst hk; cases hr
  · simp only [builtinV] at hk
    split at hk
    · rename_i tt rest x hat
      have h0 : at_[0]? = some tt := by rw [← Array.getElem?_toList, hat]; rfl
      cases hx with
      | cons hx ht => cases ht with
        | nil =>
          split at hk
          · rename_i hu
            cases hx
            refine ⟨_, .int .i64 0, hk, .int _ _, run_v ?_⟩
            simp [Builtin.cap_, h0, run_under hu, Result.andThen, goInt]
          · rename_i hu
            obtain ⟨bv, rfl⟩ := sl_form hx
            refine ⟨_, _, hk, .int _ _, run_v (w' := w) ?_⟩
            simp [Builtin.cap_, h0, run_under hu, Result.andThen, goInt]
          · subst hk; cases hr
    · subst hk; cases hr
  · simp only [builtinV] at hk
    split at hk
    · cases hx with
      | cons hx ht => cases ht with
        | cons hy ht => cases ht with
          | nil =>
            obtain ⟨v, z, g1, g2, g3⟩ := lext_max (P := P) (w := w) hk hr hx hy
            exact ⟨v, z, g1, g2, run_v (by simpa [Builtin.max_] using g3)⟩
    · cases hx with
      | cons hx ht => cases ht with
        | cons hy ht => cases ht with
          | nil =>
            obtain ⟨v, z, g1, g2, g3⟩ := lext_max (P := P) (w := w) hk hr hx hy
            exact ⟨v, z, g1, g2, run_v (by simpa [Builtin.max_] using g3)⟩
    · rename_i kd x l
      cases hx with
      | cons hx ht =>
        cases hx
        obtain ⟨v, z, g1, g2, g3⟩ := ext_max (P := P) (w := w) hk hr ht
        exact ⟨v, z, g1, g2, run_v (by simpa [Builtin.max_] using g3)⟩
    · subst hk; cases hr
  · simp only [builtinV] at hk
    split at hk
    · cases hx with
      | cons hx ht => cases ht with
        | cons hy ht => cases ht with
          | nil =>
            obtain ⟨v, z, g1, g2, g3⟩ := lext_min (P := P) (w := w) hk hr hx hy
            exact ⟨v, z, g1, g2, run_v (by simpa [Builtin.min_] using g3)⟩
    · cases hx with
      | cons hx ht => cases ht with
        | cons hy ht => cases ht with
          | nil =>
            obtain ⟨v, z, g1, g2, g3⟩ := lext_min (P := P) (w := w) hk hr hx hy
            exact ⟨v, z, g1, g2, run_v (by simpa [Builtin.min_] using g3)⟩
    · rename_i kd x l
      cases hx with
      | cons hx ht =>
        cases hx
        obtain ⟨v, z, g1, g2, g3⟩ := ext_min (P := P) (w := w) hk hr ht
        exact ⟨v, z, g1, g2, run_v (by simpa [Builtin.min_] using g3)⟩
    · subst hk; cases hr
theorem oCall_pure {c : Call} {b : Builtin} (hcal : c.callee = .builtin b) (hb : b = .len ∨ b = .cap ∨ b = .max ∨ b = .min) (hk : oCall c P pr ih t h s k = r) (hr : r.good) (ha : AR D e t a) (hs : Sim e h w) (ho : o.op = .call c) : PureOk P e s h w a o k r := by
  obtain ⟨args, hk, hargs⟩ := opnds_ok (a := a) hk hr ha
  have hmap : (c.args.map a.eval) = ⟨c.args.toList.map a.eval⟩ := by apply Array.ext'; simp
  rw [hcal] at hk
  dsimp only at hk
  obtain ⟨v, z, g1, g2, g3⟩ := builtinP_ok (ty := o.type) (cs := c.args.map fun | .const _ => true | _ => false) hb hk hr hs hargs
  refine ⟨v, z, g1, g2, ?_⟩
  simp only [execOp, ho, resolve, hcal, Sem.run_bind, Sem.run_pure, Result.andThen, invoke, hmap]
  exact g3
theorem pureF_ok (hk : opF o.op P pr ih t h s k = r) (hr : r.good) (hc : cls o.op = 0 ∨ cls o.op = 1) (ha : AR D e t a) (hs : Sim e h w) : PureOk P e s h w a o k r := by
  cases ho : o.op <;> rw [ho] at hk hc
  case move x => exact oMove_pure (pr := pr) (ih := ih) hk hr ha hs (.inl ho)
  case assign x => exact oMove_pure (pr := pr) (ih := ih) hk hr ha hs (.inr ho)
  case pick => exact oPick_pure (pr := pr) (ih := ih) hk hr ha hs ho
  case nilCheck => exact oNilCheck_pure (pr := pr) (ih := ih) hk hr ha hs ho
  case binOp => exact oBin_pure (pr := pr) (ih := ih) hk hr ha hs ho
  case unOp => exact oUn_pure (pr := pr) (ih := ih) hk hr ha hs ho
  case convert t0 t1 x =>
    cases hq : Nat.beq t0 t1 with
    | true => simp [cls, hq] at hc
    | false =>
      change (bif Nat.beq t0 t1 then oMark t0 x else oConvert t0 t1 x) P pr ih t h s k = r at hk
      rw [hq] at hk; exact oConvert_pure (pr := pr) (ih := ih) hk hr ha hs ho
  case makeInterface => exact oMakeIface_pure (pr := pr) (ih := ih) hk hr ha hs ho
  case makeFunc => exact oMakeFunc_pure (pr := pr) (ih := ih) hk hr ha hs ho
  case slice => exact oSlice_pure (pr := pr) (ih := ih) hk hr ha hs ho
  case fieldAddr => exact oFieldAddr_pure (pr := pr) (ih := ih) hk hr ha hs ho
  case field => exact oField_pure (pr := pr) (ih := ih) hk hr ha hs ho
  case indexAddr => exact oIndexAddr_pure (pr := pr) (ih := ih) hk hr ha hs ho
  case index => exact oIndex_pure (pr := pr) (ih := ih) hk hr ha hs ho
  case extract => exact oExtract_pure (pr := pr) (ih := ih) hk hr ha hs ho
  case build => exact oBuild_pure (pr := pr) (ih := ih) hk hr ha hs ho
  case entry => exact oEntry_pure (pr := pr) (ih := ih) hk hr ha hs ho
  case load => exact oLoad_pure (pr := pr) (ih := ih) hk hr ha hs ho
  case lookup => exact oLookup_pure (pr := pr) (ih := ih) hk hr ha hs ho
  case call c =>
    obtain ⟨cal, args, at_⟩ := c
    cases cal with
    | value _ => rcases hc with hc | hc <;> cases hc
    | invoke _ _ => rcases hc with hc | hc <;> cases hc
    | builtin b =>
      have hb : b = .len ∨ b = .cap ∨ b = .max ∨ b = .min := by
        cases b <;> first | (rcases hc with hc | hc <;> cases hc; done) | simp
      exact oCall_pure (pr := pr) (ih := ih) rfl hb hk hr ha hs ho
  all_goals (rcases hc with hc | hc <;> cases hc)
/-- An operation that makes a block, wherever the block's number is free. -/
def AllocOk (P : Program) (e : Env) (w : World) (a : Act) (o : Oper) (q : Nat) (v : V) (b : B) : Prop :=
  b ≠ .gone ∧ ∃ x ob sz, (execOp a.eval o).run P w = .ok (.value x) (w.alloc ob) ∧ ∀ e', e.le e' → e' q = some ⟨w.heap.size, 0, sz⟩ → VR e' v x ∧ BR e' ⟨w.heap.size, 0, sz⟩ b ob
theorem newB_kid {q : Nat} {x : B} {g : H → RO} {h' : H} {v : V} (hk : newB E0 q x (fun h => kid v h (Nat.succ q)) = r) (hr : r.good) : r = .norm (.node v .nil .nil) (E0.set q x) (q + 1) ∧ (E0.set q x).get .gone q = x := by
  unfold newB at hk
  obtain ⟨h1, hk⟩ := bif_ok hk (by simp [RO.good]) hr
  exact ⟨hk.symm, by rw [T.get_set .gone E0 q q x h1, if_pos rfl]⟩
theorem cells_BR {cs : List V} {xs : List Value} {n : Nat} {el : TypeId} (hx : VRs e cs xs) {e' : Env} (hle : e.le e') : BR e' ⟨n, 0, xs.length⟩ (.cells (tree cs) (len cs)) (.cells ⟨xs⟩ el (0, 0)) := by
  have hl := hx.length
  exact tree_BR (rest := []) (hx.mono hle) (c := ⟨xs⟩) (sh := 0) (fun i hi => by simp) (by simp; omega) (by simp)
theorem allocF_ok {q : Nat} (hk : opF o.op P pr ih t E0 q kid = r) (hr : r.good) (hc : cls o.op = 2) (ha : AR D e t a) : ∃ v b, r = .norm (.node v .nil .nil) (E0.set q b) (q + 1) ∧ (E0.set q b).get .gone q = b ∧ AllocOk P e w a o q v b := by
  cases ho : o.op <;> rw [ho] at hk hc
  case alloc ty =>
    simp only [opF, oAlloc] at hk
    split at hk
    · rename_i z hz
      obtain ⟨i, zv, hi, hz2, hv, hrun⟩ := zeroV_ok (e := e) hz
      obtain ⟨h1, h2⟩ := newB_kid (g := fun _ => r) (h' := E0) hk hr
      refine ⟨_, _, h1, h2, by simp, .pointer (some ⟨w.heap.size, 0, none⟩), .cells ⟨zv.cells.toList⟩ ty (0, 0), zv.cells.toList.length, ?_, fun e' hle he => ⟨?_, cells_BR hv.cells hle⟩⟩
      · simp [execOp, ho, Instr.alloc, hrun, Result.andThen, run_newVar]
      · simpa using VR.ptr (o := 0) he
    · subst hk; cases hr
  case box ty x =>
    simp only [opF, oBox] at hk
    obtain ⟨v, hk, hv⟩ := opnd_ok (a := a) hk hr ha
    obtain ⟨h1, h2⟩ := newB_kid (g := fun _ => r) (h' := E0) hk hr
    refine ⟨_, _, h1, h2, by simp, .pointer (some ⟨w.heap.size, 0, none⟩), .cells ⟨(a.eval x).cells.toList⟩ ty (0, 0), (a.eval x).cells.toList.length, ?_, fun e' hle he => ⟨?_, cells_BR hv.cells hle⟩⟩
    · simp [execOp, ho, Instr.box, Result.andThen, run_newVar]
    · simpa using VR.ptr (o := 0) he
  case makeMap ty x =>
    simp only [opF, oMakeMap] at hk
    split at hk
    · obtain ⟨h1, h2⟩ := newB_kid (g := fun _ => r) (h' := E0) hk hr
      refine ⟨_, _, h1, h2, by simp, .map (some w.heap.size), .map #[] 0, 0, ?_, fun e' hle he => ⟨.map he, .map .nil⟩⟩
      simp [execOp, ho, Instr.makeMap, Result.andThen, run_newObj]
    · subst hk; cases hr
  case buildSlice ty n parts =>
    simp only [opF, oBuildSlice] at hk
    split at hk
    · rename_i el hu
      split at hk
      · rename_i z hz
        obtain ⟨i, zv, hi, hz2, hv, hrun⟩ := zeroV_ok (e := e) hz
        obtain ⟨hc, hk⟩ := bif_ok hk (by simp [RO.good]) hr
        obtain ⟨c1, c2, c3⟩ := and3 hc
        have c1 := Nat.eq_of_beq_eq_true c1
        have c2 : 1 ≤ P.cellsOf el := Nat.le_of_ble_eq_true c2
        have c3 : n * P.cellsOf el ≤ 16777216 := Nat.le_of_ble_eq_true c3
        rw [len_eq] at c1
        obtain ⟨l, hk, g1, g2⟩ := opparts_ok (a := a) hk hr ha
        have hrep := reps_VRs (n := n * P.cellsOf el) (c := n) hv.cells (by omega) (by rw [c1])
        obtain ⟨cs, ys, hk, k1, k2, hlen⟩ := fillV_ok hk hr hrep (fst_map l parts a.eval g1) (snd_map g2)
        obtain ⟨h1, h2⟩ := newB_kid (g := fun _ => r) (h' := E0) hk hr
        refine ⟨_, _, h1, h2, by simp, .slice (some ⟨w.heap.size, 0, none⟩) n n, .cells ⟨ys⟩ el (0, 0), ys.length, ?_, fun e' hle he => ⟨?_, cells_BR k1 hle⟩⟩
        · simp only [execOp, ho]
          refine run_v ?_
          have hsz := info_cells hi
          by_cases h0 : n * P.cellsOf el = 0
          · rw [h0] at k2
            exact run_buildSlice0 hu hi (by rw [hsz]; exact h0) (by rw [hsz]; simpa using k2)
          · exact run_buildSliceN hu hi hz2 (by rw [hsz]; omega) (by rw [hsz]; exact h0) (by rw [hsz]; exact k2)
        · have := VR.sl (e := e') (b := q) (o := 0) (l := n) (c := n) he (Nat.le_refl _)
          simpa using this
      · subst hk; cases hr
    · subst hk; cases hr
  case makeSlice ty x y =>
    simp only [opF, oMakeSlice] at hk
    split at hk
    · rename_i el hu
      obtain ⟨v, hk, hv⟩ := opnd_ok (a := a) hk hr ha
      obtain ⟨u, hk, hu2⟩ := opnd_ok (a := a) hk hr ha
      generalize hc1 : a.eval x = cv at hv
      generalize hc2 : a.eval y = cv2 at hu2
      split at hk
      · rename_i k1 l k2 c _
        cases hv; cases hu2
        split at hk
        · rename_i z hz
          obtain ⟨i, zv, hi, hz2, hv, hrun⟩ := zeroV_ok (e := e) hz
          obtain ⟨hc3, hk⟩ := bif_ok hk (by simp [RO.good]) hr
          obtain ⟨c1, c2, c3⟩ := and3 hc3
          have c1 := Nat.eq_of_beq_eq_true c1
          have c2 : 1 ≤ P.cellsOf el := Nat.le_of_ble_eq_true c2
          have c3 : c ≤ 1000000000 := Nat.le_of_ble_eq_true c3
          rw [len_eq] at c1
          obtain ⟨hc4, hk⟩ := bif_ok hk (by simp [RO.good]) hr
          obtain ⟨d1, d2⟩ := and2 hc4
          have d1 : l ≤ c := Nat.le_of_ble_eq_true d1
          have d2 : c * (P.bytesOf el + 1) ≤ 1000000000 := Nat.le_of_ble_eq_true d2
          have d3 : c * P.bytesOf el ≤ 1000000000 := by rw [Nat.mul_add] at d2; omega
          have hrep := reps_VRs (n := c * P.cellsOf el) (c := c) hv.cells (by omega) (by rw [c1])
          obtain ⟨h1, h2⟩ := newB_kid (g := fun _ => r) (h' := E0) hk hr
          refine ⟨_, _, h1, h2, by simp, .slice (some ⟨w.heap.size, 0, none⟩) l c, .cells ((Array.range (c * P.cellsOf el)).map (fun i => zv.cells[i % zv.cells.size]!)) el (0, 0), _, ?_, fun e' hle he => ⟨?_, cells_BR hrep hle⟩⟩
          · simp only [execOp, ho, hc1, hc2]
            refine run_v ?_
            have hbytes : i.bytes = P.bytesOf el := by simp [Program.bytesOf, hi]
            have hsz := info_cells hi
            have hbig : ((P.bytesOf el : Int) * (c : Int)) ≤ 1000000000 := by
              have h1 := Int.ofNat_le.2 d3
              rw [Int.natCast_mul, show ((1000000000 : Nat) : Int) = 1000000000 from rfl] at h1
              rw [Int.mul_comm]; exact h1
            have := run_make (P := P) w ty el i zv hu hi hz2 k1 k2 (l : Int) (c : Int) (by omega) (by omega) (by rw [hbytes]; omega) (by omega)
            simp only [Int.toNat_natCast, hsz] at this
            exact this
          · have := VR.sl (e := e') (b := q) (o := 0) (l := l) (c := c) he d1
            simpa using this
        · subst hk; cases hr
      · subst hk; cases hr
    · subst hk; cases hr
  case call c =>
    obtain ⟨cal, args, at_⟩ := c
    cases cal with
    | value _ => cases hc
    | invoke _ _ => cases hc
    | builtin b => cases b <;> cases hc
  case convert a b x => cases hq : Nat.beq a b <;> simp [cls, hq] at hc
  all_goals cases hc
end Go.Ev
