/- An evaluator of the model's code: memory in the midst of a region that draws its order. An evaluator of the model's code: regions that draw their order. An evaluator of the model's code: regions that draw their order, whole. -/
import Derived.Test.YtnklmadmenkdoaaGreatQEvX
import Derived.Orders
set_option linter.unusedVariables false
set_option linter.unusedSimpArgs false
set_option linter.unusedSectionVars false
namespace Go.Ev
variable {D : List Deferred}
variable {P : Program} {pr : Prims} {ih : Rn} {e : Env} {t0 : T V} {h : H} {w : World} {a : Act} {o : Oper}
variable {all : List Oper} {σ : Nat → St} {v : Nat → V} {b : Nat → B} {c : Nat → Nat} {h0 : H} {s0 lim : Nat}
/-- How much has been done to memory. -/
def Stage (all : List Oper) (h0 : H) (lim : Nat) (σ : Nat → St) (c : Nat → Nat) (L : Nat → Bool) (g : H) (s : Nat) : Prop :=
  (∃ i, i < all.length ∧ c i = 4 ∧ L i = true ∧ (∀ i', i' < all.length → c i' = 4 → L i' = true → i' ≤ i) ∧ g = (σ (i + 1)).g ∧ s = (σ (i + 1)).s) ∨
  ((∀ i, i < all.length → c i = 4 → L i = false) ∧ g = (σ 0).g ∧ s = (σ 0).s)
theorem again_ok {op : Op} {t : T V} {x : V} {g : H} (h : again op t x g P pr ih = true) : ∃ t' h' s', opF op P pr ih t g 0 kid0 = .norm t' h' s' ∧ t'.get un 0 = x := by
  unfold again at h
  split at h
  · rename_i t' h' s' he; exact ⟨t', h', s', he, veqB_ok h⟩
  · cases h
/-- The first effect from a place on. -/
theorem first_eff (c : Nat → Nat) : ∀ (n j : Nat), (∀ m, j ≤ m → m < j + n → c m ≠ 4) ∨ ∃ m, j ≤ m ∧ m < j + n ∧ c m = 4 ∧ ∀ k, j ≤ k → k < m → c k ≠ 4
  | 0, j => .inl (fun m h1 h2 => by omega)
  | n + 1, j => by
    rcases first_eff c n j with h | ⟨m, h1, h2, h3, h4⟩
    · by_cases hc : c (j + n) = 4
      · exact .inr ⟨j + n, by omega, by omega, hc, fun k h1 h2 => h k h1 h2⟩
      · refine .inl (fun m h1 h2 => ?_)
        by_cases hm : m = j + n
        · rw [hm]; exact hc
        · exact h m h1 (by omega)
    · exact .inr ⟨m, h1, by omega, h3, h4⟩
section
variable (R : Rgn all P pr ih t0 h0 s0 lim σ v b c)
include R
theorem Rgn.listed {L : Nat → Bool} (cl : Closed all L) {i j : Nat} (hi : i < all.length) (hL : L i = true) (hb : (nthN (masks all []) i).testBit j = true) : L j = true ∧ j < i := by
  obtain ⟨o, ho⟩ := R.at hi
  exact mask_listed R.hd cl (i + 1) i o (by omega) ho (cl i o ho hL) j hb
theorem Rgn.ready {L : Nat → Bool} (cl : Closed all L) {i j : Nat} {o : Oper} (ho : all[i]? = some o) (hr : ∀ e ∈ o.after, Region.binds .any e = true → L e.on = true) (hb : (nthN (masks all []) i).testBit j = true) : L j = true ∧ j < i :=
  mask_listed R.hd cl (i + 1) i o (by omega) ho hr j hb
theorem Rgn.chain {i j : Nat} (hi : i < all.length) (hji : j < i) (hci : c i = 4) (hcj : c j = 4) : (nthN (masks all []) i).testBit j = true := by
  obtain ⟨o, ho⟩ := R.at hi
  obtain ⟨p, hp⟩ := R.at (i := j) (by omega)
  have h1 := R.tr.step i o (Nat.zero_le _) ho
  have h2 := R.tr.step j p (Nat.zero_le _) hp
  rw [hci] at h1; rw [hcj] at h2
  exact (R.hd.pair i o ho j p hp (by omega)).eff hji h1.cls h2.cls
/-- The effect that is next finds memory as the pass had it. -/
theorem Rgn.stage_eff {L : Nat → Bool} (cl : Closed all L) {i : Nat} {o : Oper} (ho : all[i]? = some o) (hr : ∀ e ∈ o.after, Region.binds .any e = true → L e.on = true) (hL : L i = false) (hc : c i = 4) {g : H} {s : Nat} (st : Stage all h0 lim σ c L g s) :
    g = (σ i).g ∧ s = (σ i).s ∧ ∀ i', i' < all.length → c i' = 4 → (L i' = true ↔ i' < i) := by
  have hi := R.lt ho
  have hall : ∀ i', i' < all.length → c i' = 4 → (L i' = true ↔ i' < i) := fun i' h1 h2 => by
    constructor
    · intro h3
      rcases Nat.lt_trichotomy i' i with h4 | h4 | h4
      · exact h4
      · subst h4; rw [hL] at h3; cases h3
      · have := R.listed cl h1 h3 (R.chain h1 h4 h2 hc)
        rw [hL] at this; cases this.1
    · intro h3
      exact (R.ready cl ho hr (R.chain hi h3 hc h2)).1
  rcases st with ⟨i0, h1, h2, h3, h4, h5, h6⟩ | ⟨h1, h2, h3⟩
  · have hlt := (hall i0 h1 h2).1 h3
    have := R.same (i0 + 1) i hlt (by omega) (fun m hm1 hm2 hm3 => by
      have := h4 m (by omega) hm3 ((hall m (by omega) hm3).2 hm2)
      omega)
    exact ⟨by rw [h5, this.1], by rw [h6, this.2], hall⟩
  · have := R.same 0 i (Nat.zero_le _) (by omega) (fun m hm1 hm2 hm3 => by
      have := h1 m (by omega) hm3
      rw [(hall m (by omega) hm3).2 hm2] at this; cases this)
    exact ⟨by rw [h2, this.1], by rw [h3, this.2], hall⟩
/-- What is read reads the same wherever it comes up. -/
theorem Rgn.stage_read {L : Nat → Bool} (cl : Closed all L) {i : Nat} {o : Oper} (ho : all[i]? = some o) (hr : ∀ e ∈ o.after, Region.binds .any e = true → L e.on = true) (hL : L i = false) (hc : c i = 2) {g : H} {s : Nat} (st : Stage all h0 lim σ c L g s) :
    ∃ t' h' s', opF o.op P pr ih (σ i).t g 0 kid0 = .norm t' h' s' ∧ t'.get un 0 = v i := by
  have hi := R.lt ho
  have own : ∃ t' h' s', opF o.op P pr ih (σ i).t (σ i).g 0 kid0 = .norm t' h' s' ∧ t'.get un 0 = v i := by
    have := R.tr.step i o (Nat.zero_le _) ho
    rw [hc] at this
    cases this with
    | read hw hc he hv hs => exact ⟨_, _, _, he, hv.symm⟩
  -- an effect that has not come up, ahead of i in the text
  have ahead : ∀ i1, i1 < i → c i1 = 4 → L i1 = false → again o.op (σ i).t (v i) (σ i1).g P pr ih = true := fun i1 h1 h2 h3 => by
    refine R.tr.down i1 i o (Nat.zero_le _) h1 ho h2 hc ?_
    cases hb : (nthN (masks all []) i).testBit i1 with
    | false => rfl
    | true => have := (R.ready cl ho hr hb).1; rw [h3] at this; cases this
  rcases st with ⟨i0, h1, h2, h3, h4, h5, h6⟩ | ⟨h1, h2, h3⟩
  · rcases Nat.lt_trichotomy i0 i with h7 | h7 | h7
    · rcases first_eff c (i - (i0 + 1)) (i0 + 1) with hn | ⟨m, m1, m2, m3, m4⟩
      · have := R.same (i0 + 1) i h7 (by omega) (fun m hm1 hm2 => hn m hm1 (by omega))
        rw [h5, ← this.1]; exact own
      · have := R.same (i0 + 1) m m1 (by omega) (fun k k1 k2 => m4 k k1 k2)
        have hLm : L m = false := by
          cases hLm : L m with
          | false => rfl
          | true => have := h4 m (by omega) m3 hLm; omega
        have hag := ahead m (by omega) m3 hLm
        rw [this.1, ← h5] at hag
        exact again_ok hag
    · subst h7; rw [hc] at h2; cases h2
    · obtain ⟨o', ho'⟩ := R.at h1
      have hb : (nthN (masks all []) i0).testBit i = false := by
        cases hb : (nthN (masks all []) i0).testBit i with
        | false => rfl
        | true => have := (R.listed cl h1 h3 hb).1; rw [hL] at this; cases this
      have hag := R.tr.up i i0 o o' (Nat.zero_le _) h7 ho ho' hc h2 hb
      rw [← h5] at hag
      exact again_ok hag
  · rcases first_eff c i 0 with hn | ⟨m, m1, m2, m3, m4⟩
    · have := R.same 0 i (Nat.zero_le _) (by omega) (fun m hm1 hm2 => hn m hm1 (by omega))
      rw [h2, ← this.1]; exact own
    · have := R.same 0 m m1 (by omega) (fun k k1 k2 => m4 k k1 k2)
      have hag := ahead m (by omega) m3 (h1 m (by omega) m3)
      rw [this.1, ← h2] at hag
      exact again_ok hag
end
/-- What a piece of a run has left, whatever numbers it goes on with. -/
structure PX (e : Env) (s : Nat) (h : H) (w : World) (e' : Env) (h' : H) (w' : World) : Prop where
  lim0 : ∀ n, e.base.prot n → n < w.heap.size
  le : e.le e'
  low : ∀ b, b < s → e' b = e b
  sim : Sim e' h' w'
  dom : ∀ b x, live h' b → e' b = some x → (∃ b₀ x₀, live h b₀ ∧ e b₀ = some x₀ ∧ x₀.n = x.n) ∨ w.heap.size ≤ x.n
  keep : ∀ n, n < w.heap.size → (∀ b x, live h b → e b = some x → x.n ≠ n) → w'.heap[n]? = w.heap[n]?
  size : w.heap.size ≤ w'.heap.size
  os : w'.os = w.os
  tape : w'.tape = w.tape
  output : w'.output = w.output
theorem PX.refl {s : Nat} (hs : Sim e h w) : PX e s h w e h w :=
  ⟨hs.big, Env.le.refl e, fun _ _ => rfl, hs, fun b x hb hx => .inl ⟨b, x, hb, hx, rfl⟩, fun _ _ _ => rfl, Nat.le_refl _, rfl, rfl, rfl⟩
/-- Going on from a memory that holds what was there and new blocks. -/
theorem PX.trans {s s1 s2 : Nat} {e' e'' : Env} {h' h1 h'' : H} {w' w'' : World} (p : PX e s h w e' h' w') (hs : s ≤ s1) (hd : ∀ b x, live h1 b → e' b = some x → live h' b ∨ w.heap.size ≤ x.n) (q : Post e' s1 h1 w' e'' s2 h'' w'') : PX e s h w e'' h'' w'' where
  lim0 := p.lim0
  le := p.le.trans q.le
  low := fun b hb => (q.low b (by omega)).trans (p.low b hb)
  sim := q.sim
  dom := fun b x hb hx => by
    rcases q.dom b x hb hx with ⟨b₀, x₀, g1, g2, g3⟩ | g1
    · rcases hd b₀ x₀ g1 g2 with g4 | g4
      · rcases p.dom b₀ x₀ g4 g2 with ⟨b₁, x₁, k1, k2, k3⟩ | k1
        · exact .inl ⟨b₁, x₁, k1, k2, k3.trans g3⟩
        · exact .inr (g3 ▸ k1)
      · exact .inr (g3 ▸ g4)
    · exact .inr (Nat.le_trans p.size g1)
  keep := fun n hn hk => by
    rw [q.keep n (Nat.lt_of_lt_of_le hn p.size) (fun b x hb hx => ?_), p.keep n hn hk]
    rcases hd b x hb hx with g4 | g4
    · rcases p.dom b x g4 hx with ⟨b₀, x₀, k1, k2, k3⟩ | k1
      · rw [← k3]; exact hk b₀ x₀ k1 k2
      · exact fun he => absurd (he ▸ k1) (by omega)
    · exact fun he => absurd (he ▸ g4) (by omega)
  size := Nat.le_trans p.size q.size
  os := q.os.trans p.os
  tape := q.tape.trans p.tape
  output := q.output.trans p.output
/-- A block that was made and that no effect has met. -/
structure Own (ρ : Env) (w w0 : World) (g : H) (q : Nat) (blk : B) : Prop where
  ex : ∃ n sz ob, ρ q = some ⟨n, 0, sz⟩ ∧ w.heap[n]? = some ob ∧ BR ρ ⟨n, 0, sz⟩ blk ob ∧ w0.heap.size ≤ n ∧ ∀ b x, live g b → ρ b = some x → x.n ≠ n
  gone : blk ≠ .gone
theorem live_add {g : H} : ∀ {l : List AL} {b : Nat}, live (addAll l g) b → (live g b ∧ (addAll l g).get .gone b = g.get .gone b) ∨ ∃ x ∈ l, x.id = b ∧ (addAll l g).get .gone b = x.b
  | [], b, hl => .inl ⟨hl, rfl⟩
  | y :: l, b, hl => by
    have e1 : addAll (y :: l) g = (addAll l g).set y.id y.b := rfl
    rw [e1] at hl ⊢
    cases hh : (addAll l g).has y.id with
    | false =>
      rw [T.set_off _ _ _ hh] at hl ⊢
      rcases live_add hl with h1 | ⟨x, h1, h2, h3⟩
      · exact .inl h1
      · exact .inr ⟨x, List.mem_cons_of_mem _ h1, h2, h3⟩
    | true =>
      by_cases hb : b = y.id
      · exact .inr ⟨y, List.mem_cons_self, hb.symm, by rw [T.get_set .gone _ _ _ _ hh, if_pos hb]⟩
      · have hg : ((addAll l g).set y.id y.b).get .gone b = (addAll l g).get .gone b := by rw [T.get_set .gone _ _ _ _ hh, if_neg hb]
        have hl' : live (addAll l g) b := by unfold live at hl ⊢; rwa [hg] at hl
        rcases live_add hl' with ⟨h1, h2⟩ | ⟨x, h1, h2, h3⟩
        · exact .inl ⟨h1, hg.trans h2⟩
        · exact .inr ⟨x, List.mem_cons_of_mem _ h1, h2, hg.trans h3⟩
/-- Memory with blocks that were made. -/
theorem join {ρ : Env} {w0 : World} {g : H} {l : List AL} (hw0 : ∀ n, ρ.base.prot n → n < w0.heap.size) (hs : Sim ρ g w) (ho : ∀ x ∈ l, Own ρ w w0 g x.id x.b) (hsep : ∀ x ∈ l, ∀ y ∈ l, x.id ≠ y.id → ∀ z z', ρ x.id = some z → ρ y.id = some z' → z.n ≠ z'.n) :
    Sim ρ (addAll l g) w ∧ ∀ b x, live (addAll l g) b → ρ b = some x → live g b ∨ w0.heap.size ≤ x.n := by
  refine ⟨⟨fun b hl => ?_, fun b b' x x' hl hl' hx hx' hn => ?_, hs.big, hs.old, fun b x hl hx => ?_⟩, fun b x hl hx => ?_⟩
  · rcases live_add hl with ⟨h1, h2⟩ | ⟨y, h1, h2, h3⟩
    · rw [h2]; exact hs.blk b h1
    · obtain ⟨n, sz, ob, g1, g2, g3, g4, g5⟩ := (ho y h1).ex
      rw [h3, ← h2]
      exact ⟨_, ob, g1, g2, g3⟩
  · rcases live_add hl with ⟨h1, h2⟩ | ⟨y, h1, h2, h3⟩ <;> rcases live_add hl' with ⟨k1, k2⟩ | ⟨y', k1, k2, k3⟩
    · exact hs.inj b b' x x' h1 k1 hx hx' hn
    · obtain ⟨n, sz, ob, g1, g2, g3, g4, g5⟩ := (ho y' k1).ex
      rw [← k2, g1] at hx'; injection hx' with hx'; subst hx'
      exact absurd hn (g5 b x h1 hx)
    · obtain ⟨n, sz, ob, g1, g2, g3, g4, g5⟩ := (ho y h1).ex
      rw [← h2, g1] at hx; injection hx with hx; subst hx
      exact absurd hn.symm (g5 b' x' k1 hx')
    · by_cases hid : y.id = y'.id
      · rw [← h2, ← k2]; exact hid
      · rw [← h2] at hx; rw [← k2] at hx'
        exact absurd hn (hsep y h1 y' k1 hid x x' hx hx')
  · rcases live_add hl with ⟨h1, h2⟩ | ⟨y, h1, h2, h3⟩
    · exact hs.above b x h1 hx
    · obtain ⟨n, sz, ob, g1, g2, g3, g4, g5⟩ := (ho y h1).ex
      rw [← h2, g1] at hx; injection hx with hx; subst hx
      exact fun hp => absurd (Nat.lt_of_lt_of_le (hw0 _ hp) g4) (Nat.lt_irrefl _)
  · rcases live_add hl with ⟨h1, h2⟩ | ⟨y, h1, h2, h3⟩
    · exact .inl h1
    · obtain ⟨n, sz, ob, g1, g2, g3, g4, g5⟩ := (ho y h1).ex
      rw [← h2, g1] at hx; injection hx with hx; subst hx
      exact .inr g4
end Go.Ev
namespace Go.Ev
variable {D : List Deferred}
variable {P : Program} {pr : Prims} {ih : Rn} {e : Env} {t0 : T V} {h : H} {w : World} {a : Act} {o : Oper}
variable {all : List Oper} {σ : Nat → St} {v : Nat → V} {b : Nat → B} {c : Nat → Nat} {h0 : H} {s0 lim : Nat} {w0 : World}
/-- Where the operations of a set have come up. -/
structure Inv (D : List Deferred) (all : List Oper) (t0 : T V) (h0 : H) (s0 lim : Nat) (σ : Nat → St) (v : Nat → V) (b : Nat → B) (c : Nat → Nat) (e : Env) (w0 : World) (L : Nat → Bool) (ρ : Env) (tX : T V) (g : H) (sX : Nat) (a : Act) (w : World) : Prop where
  ar : AR D ρ tX a
  tx : TX all v t0 L tX
  px : PX e s0 h0 w0 ρ g w
  ge : lim ≤ sX
  st : Stage all h0 lim σ c L g sX
  own : ∀ i, i < all.length → c i = 3 → L i = true → (∀ i', i' < all.length → c i' = 4 → L i' = true → i < i' → (nthN (masks all []) i').testBit i = false) → Own ρ w w0 g (σ i).q (b i)
  low : ∀ i, i < all.length → c i = 3 → L i = true → ∃ x, ρ (σ i).q = some x ∧ x.n < w.heap.size
  sep : ∀ i i', i < all.length → i' < all.length → c i = 3 → c i' = 3 → L i = true → L i' = true → i ≠ i' → ∀ x x', ρ (σ i).q = some x → ρ (σ i').q = some x' → x.n ≠ x'.n
  free : ∀ x, sX ≤ x → ρ x = none
  fresh : ∀ i, i < all.length → c i = 3 → L i = false → ρ (σ i).q = none
def more (L : Nat → Bool) (i : Nat) : Nat → Bool := fun j => L j || decide (j = i)
theorem more_ne {L : Nat → Bool} {i j : Nat} (h : j ≠ i) : more L i j = L j := by simp [more, h]
theorem more_self (L : Nat → Bool) (i : Nat) : more L i i = true := by simp [more]
theorem want_congr {t t' : T V} (h : ∀ u ∈ looks all o, t.get un u = t'.get un u) : want all t o.guard = want all t' o.guard := by
  unfold want
  cases hg : o.guard with
  | none => rfl
  | some p =>
    obtain ⟨j, y⟩ := p
    simp only
    cases hd : all.drop j with
    | nil => rfl
    | cons q rest =>
      simp only
      cases hq : q.dst with
      | none => rfl
      | some d =>
        simp only
        rw [h d (by unfold looks; rw [hg]; simp only [hd, hq]; simp)]
theorem opF_looks {t t' : T V} {h : H} {s : Nat} {k : K} (hl : ∀ u ∈ looks all o, t.get un u = t'.get un u) : opF o.op P pr ih t h s k = opF o.op P pr ih t' h s k :=
  opF_congr (fun x hx f => opnd_congr (fun u hu => hl u (by
    subst hu
    unfold looks opTmps
    exact List.mem_append_left _ (List.mem_filterMap.2 ⟨_, hx, rfl⟩))) f)
theorem kid0_val {v : V} {g : H} {s : Nat} {t' : T V} {h' : H} {s' : Nat} (h : kid0 v g s = .norm t' h' s') : t'.get un 0 = v := by
  unfold kid0 at h
  injection h with h1 h2 h3
  subst h1; rfl
section
variable (R : Rgn all P pr ih t0 h0 s0 lim σ v b c) {L : Nat → Bool} {ρ : Env} {tX : T V} {g : H} {sX : Nat}
include R
theorem Rgn.agree (cl : Closed all L) {i : Nat} (ho : all[i]? = some o) (hr : ∀ e ∈ o.after, Region.binds .any e = true → L e.on = true) (hL : L i = false) (tx : TX all v t0 L tX) : ∀ u ∈ looks all o, (σ i).t.get un u = tX.get un u := fun u hu =>
  (R.tx i (by have := R.lt ho; omega)).agree R.hd tx (fun j o' ho' hd' => by
    by_cases hj : j = i
    · subst hj; rw [hL]; simp
    · have hb := (R.hd.pair i o ho j o' ho' hj).look u hd' hu
      obtain ⟨h1, h2⟩ := R.ready cl ho hr hb
      rw [h1]; simpa using h2)
/-- An operation that leaves memory. -/
theorem Inv.idle (I : Inv D all t0 h0 s0 lim σ v b c e w0 L ρ tX g sX a w) {i : Nat} (ho : all[i]? = some o) (hL : L i = false) (h3 : c i ≠ 3) (h4 : c i ≠ 4) {x : Value} (hx : VR ρ (v i) x) :
    Inv D all t0 h0 s0 lim σ v b c e w0 (more L i) ρ (putT o.dst tX (v i)) g sX (a.put o.dst x) w := by
  have n3 : ∀ j, c j = 3 → more L i j = L j := fun j hj => more_ne (fun hh => h3 (by rw [← hh]; exact hj))
  have n4 : ∀ j, c j = 4 → more L i j = L j := fun j hj => more_ne (fun hh => h4 (by rw [← hh]; exact hj))
  refine ⟨I.ar.put hx, I.tx.put R.hd ho hL, I.px, I.ge, ?_, fun j hj hc hl hm => ?_, fun j hj hc hl => ?_, fun j j' hj hj' hc hc' hl hl' => ?_, I.free, fun j hj hc hl => ?_⟩
  · rcases I.st with ⟨i0, k1, k2, k3, k4, k5, k6⟩ | ⟨k1, k2, k3⟩
    · exact .inl ⟨i0, k1, k2, by rw [n4 i0 k2]; exact k3, fun i' m1 m2 m3 => k4 i' m1 m2 (by rwa [n4 i' m2] at m3), k5, k6⟩
    · exact .inr ⟨fun j m1 m2 => by rw [n4 j m2]; exact k1 j m1 m2, k2, k3⟩
  · exact I.own j hj hc (by rwa [n3 j hc] at hl) (fun i' m1 m2 m3 m4 => hm i' m1 m2 (by rw [n4 i' m2]; exact m3) m4)
  · exact I.low j hj hc (by rwa [n3 j hc] at hl)
  · exact I.sep j j' hj hj' hc hc' (by rwa [n3 j hc] at hl) (by rwa [n3 j' hc'] at hl')
  · exact I.fresh j hj hc (by rwa [n3 j hc] at hl)
/-- An operation that makes a block. -/
theorem Inv.made (I : Inv D all t0 h0 s0 lim σ v b c e w0 L ρ tX g sX a w) {i : Nat} (ho : all[i]? = some o) (hL : L i = false) (h3 : c i = 3) {x : Value} {ob : Obj} {sz : Nat} (hg : b i ≠ .gone)
    (hx : ∀ ρ', ρ.le ρ' → ρ' (σ i).q = some ⟨w.heap.size, 0, sz⟩ → VR ρ' (v i) x ∧ BR ρ' ⟨w.heap.size, 0, sz⟩ (b i) ob) :
    ∃ ρ', Inv D all t0 h0 s0 lim σ v b c e w0 (more L i) ρ' (putT o.dst tX (v i)) g sX (a.put o.dst x) (w.alloc ob) := by
  have hi := R.lt ho
  have hq := R.qlim h3 hi
  have hnone := I.fresh i hi h3 hL
  have hle : ρ.le ⟨fun y => if y = (σ i).q then some ⟨w.heap.size, 0, sz⟩ else ρ y, ρ.base⟩ := by
    refine ⟨fun y z hz => ?_, rfl⟩
    show (if y = (σ i).q then some ⟨w.heap.size, 0, sz⟩ else ρ y) = some z
    by_cases hy : y = (σ i).q
    · subst hy; rw [hnone] at hz; cases hz
    · simp only [hy, if_false]; exact hz
  have hself : (fun y => if y = (σ i).q then some (⟨w.heap.size, 0, sz⟩ : Loc) else ρ y) (σ i).q = some ⟨w.heap.size, 0, sz⟩ := by simp
  obtain ⟨hv, hb⟩ := hx _ hle hself
  have hlv : ∀ y, live g y → y ≠ (σ i).q := fun y hl hy => by
    obtain ⟨z, o', h1, _⟩ := I.px.sim.blk y hl
    rw [hy, hnone] at h1; cases h1
  have hin : ∀ y z, live g y → ρ y = some z → z.n < w.heap.size := fun y z hl hz => by
    obtain ⟨z', o', h1, h2, _⟩ := I.px.sim.blk y hl
    rw [hz] at h1; injection h1 with h1; subst h1
    exact (Array.getElem?_eq_some_iff.1 h2).1
  have hpush : ∀ n o', w.heap[n]? = some o' → (w.alloc ob).heap[n]? = some o' := fun n o' hn => by
    obtain ⟨h1, h2⟩ := Array.getElem?_eq_some_iff.1 hn
    show (w.heap.push ob)[n]? = _
    rw [Array.getElem?_push_lt h1, h2]
  have hsize : (w.alloc ob).heap.size = w.heap.size + 1 := by show (w.heap.push ob).size = _; simp
  have hqne : ∀ j, j < all.length → c j = 3 → j ≠ i → (σ j).q ≠ (σ i).q := fun j hj hc hne => by
    rcases Nat.lt_or_gt_of_ne hne with h1 | h1
    · have := R.qlt hc h1 (by omega); omega
    · have := R.qlt h3 h1 (by omega); omega
  refine ⟨_, (I.ar.mono hle).put hv, I.tx.put R.hd ho hL, ⟨I.px.lim0, I.px.le.trans hle, fun y hy => ?_, ⟨fun y hl => ?_, fun y y' z z' hl hl' hz hz' hn => ?_, (show ∀ n, ρ.base.prot n → n < _ by rw [hsize]; exact fun n hn => Nat.lt_succ_of_lt (I.px.sim.big n hn)), fun n (hn : ρ.base.prot n) => (show (w.heap.push ob)[n]? = _ by rw [Array.getElem?_push_lt (I.px.sim.big n hn)]; have := I.px.sim.old n hn; rw [← this]; simp [I.px.sim.big n hn]), fun y z hl hz => ?_⟩, fun y z hl hz => ?_, fun n hn hk => ?_, ?_, I.px.os, I.px.tape, I.px.output⟩, I.ge, ?_, fun j hj hc hl hm => ?_, fun j hj hc hl => ?_, fun j j' hj hj' hc hc' hl hl' hne z z' hz hz' => ?_, fun y hy => ?_, fun j hj hc hl => ?_⟩
  · simp only [show y ≠ (σ i).q by omega, if_false]; exact I.px.low y hy
  · obtain ⟨z, o', h1, h2, h4⟩ := I.px.sim.blk y hl
    exact ⟨z, o', by simp [hlv y hl, h1], hpush _ _ h2, h4.mono hle⟩
  · simp only [hlv y hl, hlv y' hl', if_false] at hz hz'
    exact I.px.sim.inj y y' z z' hl hl' hz hz' hn
  · simp only [hlv y hl, if_false] at hz
    exact I.px.sim.above y z hl hz
  · simp only [hlv y hl, if_false] at hz
    exact I.px.dom y z hl hz
  · have h1 := I.px.keep n hn hk
    rw [← h1]
    have hlt : n < w.heap.size := Nat.lt_of_lt_of_le hn I.px.size
    show (w.heap.push ob)[n]? = _
    rw [Array.getElem?_push_lt hlt]; simp [hlt]
  · rw [hsize]; have := I.px.size; omega
  · have h4' : ∀ j, c j = 4 → more L i j = L j := fun j hj => more_ne (fun hh => by rw [hh, h3] at hj; cases hj)
    rcases I.st with ⟨i0, k1, k2, k3, k4, k5, k6⟩ | ⟨k1, k2, k3⟩
    · exact .inl ⟨i0, k1, k2, by rw [h4' i0 k2]; exact k3, fun i' m1 m2 m3 => k4 i' m1 m2 (by rwa [h4' i' m2] at m3), k5, k6⟩
    · exact .inr ⟨fun j m1 m2 => by rw [h4' j m2]; exact k1 j m1 m2, k2, k3⟩
  · by_cases hji : j = i
    · subst hji
      refine ⟨⟨w.heap.size, sz, ob, by simp, ?_, hb, I.px.size, fun y z hl hz => ?_⟩, hg⟩
      · show (w.heap.push ob)[w.heap.size]? = _; simp
      · simp only [hlv y hl, if_false] at hz
        have := hin y z hl hz; omega
    · rw [more_ne hji] at hl
      have h4' : ∀ k, c k = 4 → more L i k = L k := fun k hk => more_ne (fun hh => by rw [hh, h3] at hk; cases hk)
      obtain ⟨⟨n, sz', o', g1, g2, g3, g4, g5⟩, g6⟩ := I.own j hj hc hl (fun i' m1 m2 m3 m4 => hm i' m1 m2 (by rw [h4' i' m2]; exact m3) m4)
      exact ⟨⟨n, sz', o', by simp [hqne j hj hc hji, g1], hpush _ _ g2, g3.mono hle, g4, fun y z hl' hz => by
        simp only [hlv y hl', if_false] at hz
        exact g5 y z hl' hz⟩, g6⟩
  · by_cases hji : j = i
    · subst hji; exact ⟨⟨w.heap.size, 0, sz⟩, by simp, by rw [hsize]; exact Nat.lt_succ_self _⟩
    · rw [more_ne hji] at hl
      obtain ⟨z, g1, g2⟩ := I.low j hj hc hl
      exact ⟨z, by simp [hqne j hj hc hji, g1], by rw [hsize]; omega⟩
  · by_cases hji : j = i
    · subst hji
      have hji' : j' ≠ j := fun hh => hne hh.symm
      rw [more_ne hji'] at hl'
      obtain ⟨y, g1, g2⟩ := I.low j' hj' hc' hl'
      simp at hz; subst hz
      simp only [hqne j' hj' hc' hji', if_false] at hz'
      rw [g1] at hz'; injection hz' with hz'; subst hz'
      simp only; omega
    · rw [more_ne hji] at hl
      simp only [hqne j hj hc hji, if_false] at hz
      by_cases hji' : j' = i
      · subst hji'
        obtain ⟨y, g1, g2⟩ := I.low j hj hc hl
        simp at hz'; subst hz'
        rw [g1] at hz; injection hz with hz; subst hz
        simp only; omega
      · rw [more_ne hji'] at hl'
        simp only [hqne j' hj' hc' hji', if_false] at hz'
        exact I.sep j j' hj hj' hc hc' hl hl' hne z z' hz hz'
  · have := I.ge
    simp only [show y ≠ (σ i).q by omega, if_false]; exact I.free y hy
  · have hji : j ≠ i := fun hh => by rw [hh, more_self] at hl; cases hl
    rw [more_ne hji] at hl
    simp only [hqne j hj hc hji, if_false]
    exact I.fresh j hj hc hl
end
end Go.Ev
namespace Go.Ev
variable {D : List Deferred}
variable {P : Program} {pr : Prims} {ih : Rn} {e : Env} {t0 : T V} {h : H} {w : World} {a : Act} {o : Oper}
variable {all : List Oper} {σ : Nat → St} {v : Nat → V} {b : Nat → B} {c : Nat → Nat} {h0 : H} {s0 lim : Nat} {w0 : World}
theorem wp_of_gives {R : Value → World → Prop} {next : Act → World → Prop} {Q : Exit → Act → World → Prop} (hg : Gives P (execOp a.eval o) w R) (hn : ∀ x w', R x w' → next (a.put o.dst x) w') : o.wp P a w next Q := by
  unfold Oper.wp
  unfold Gives at hg
  generalize (execOp a.eval o).run P w = res at *
  cases res with
  | halt x w' => cases x <;> exact hg.elim
  | ok n w' =>
    cases n with
    | value x => exact hn _ _ hg
    | skip => exact hn _ _ hg
    | enter f args => exact Calls.mono hg (fun en w'' ⟨x, he, hr⟩ => by subst he; exact hn _ _ hr)
    | _ => exact hg.elim
/-- Where one way is left, it is that. -/
theorem sub_norm {x : RO} {t : T V} {h : H} {s : Nat} (hx : Sub x (.norm t h s)) : x = .norm t h s := by cases hx; rfl
theorem opF_one {t t' : T V} {h h' : H} {s s' : Nat} (hk : opF o.op P pr ih t h s kid = .norm t' h' s') (hih : SoundRn P ih) (hpr : SoundPr P pr) (ha : AR D e t a) (hs : Sim e h w) (hf : Free e s) : Gives P (execOp a.eval o) w (Good e s h w (t'.get un 0) h' s') :=
  Gives.mono (opF_ok hk trivial hih hpr ha hs hf) (fun x w' hx => by
    obtain ⟨v, h'', s'', g1, g2⟩ := hx
    have := sub_norm g1
    unfold kid at this
    injection this with k1 k2 k3
    subst k1 k2 k3
    exact g2)
section
variable (R : Rgn all P pr ih t0 h0 s0 lim σ v b c) {L : Nat → Bool} {ρ : Env} {tX : T V} {g : H} {sX : Nat}
include R
theorem Rgn.s0le : s0 ≤ lim := by
  have h1 := R.qle 0 all.length (Nat.zero_le _) (Nat.le_refl _)
  rw [R.z] at h1
  exact Nat.le_trans h1 R.q
/-- An operation that acts. -/
theorem Inv.acts (hih : SoundRn P ih) (hpr : SoundPr P pr) (cl : Closed all L) (I : Inv D all t0 h0 s0 lim σ v b c e w0 L ρ tX g sX a w) {i : Nat} (ho : all[i]? = some o) (hr : ∀ e ∈ o.after, Region.binds .any e = true → L e.on = true) (hL : L i = false) (h4 : c i = 4) :
    Gives P (execOp a.eval o) w (fun x w' => ∃ ρ' g' s', Inv D all t0 h0 s0 lim σ v b c e w0 (more L i) ρ' (putT o.dst tX (v i)) g' s' (a.put o.dst x) w') := by
  have hi := R.lt ho
  obtain ⟨hg, hs, heff⟩ := R.stage_eff cl ho hr hL h4 I.st
  have st := R.tr.step i o (Nat.zero_le _) ho
  rw [h4] at st
  cases st with
  | @eff t' h' s' hw hc he hv hs' =>
    have hal : ∀ x ∈ pickM true (nthN (masks all []) i) (σ i).al, ∃ i0, i0 < i ∧ c i0 = 3 ∧ x = ⟨i0, (σ i0).q, b i0⟩ ∧ L i0 = true ∧ (nthN (masks all []) i).testBit i0 = true ∧ Own ρ w w0 g (σ i0).q (b i0) := fun x hx => by
      obtain ⟨k1, k2⟩ := mem_pick.1 hx
      obtain ⟨i0, m1, m2, m3, m4⟩ := (R.al i (by omega) x).1 k1
      have hb : (nthN (masks all []) i).testBit i0 = true := by rw [m3] at k2; exact k2
      have hl := (R.ready cl ho hr hb).1
      exact ⟨i0, m1, m2, m3, hl, hb, I.own i0 (by omega) m2 hl (fun i' n1 n2 n3 n4 => m4 i' n2 n4 ((heff i' n1 n2).1 n3))⟩
    obtain ⟨hj, hjd⟩ := join (w0 := w0) (by rw [I.px.le.base]; exact I.px.lim0) (l := pickM true (nthN (masks all []) i) (σ i).al) I.px.sim
      (fun x hx => by obtain ⟨i0, m1, m2, m3, m4, m5, m6⟩ := hal x hx; rw [m3]; exact m6)
      (fun x hx y hy hne z z' hz hz' => by
        obtain ⟨i0, m1, m2, m3, m4, m5, m6⟩ := hal x hx
        obtain ⟨i1, n1, n2, n3, n4, n5, n6⟩ := hal y hy
        rw [m3] at hz hne; rw [n3] at hz' hne
        exact I.sep i0 i1 (by omega) (by omega) m2 n2 m4 n4 (fun hh => hne (by rw [hh])) z z' hz hz')
    rw [opF_looks (R.agree cl ho hr hL I.tx), ← hg, ← hs] at he
    have k2 := opF_one (o := o) he hih hpr I.ar hj I.free
    obtain ⟨u, hu⟩ : ∃ u, u = t'.get un 0 := ⟨_, rfl⟩
    rw [← hu] at k2
    obtain ⟨h'', e2⟩ : ∃ x, x = h' := ⟨_, rfl⟩
    obtain ⟨s'', e3⟩ : ∃ x, x = s' := ⟨_, rfl⟩
    subst e2 e3
    have hvu : v i = u := by rw [hu]; exact hv
    refine k2.mono (fun x w' hx => ?_)
    obtain ⟨ρ', hx, p⟩ := hx
    have hin : ∀ j, j < all.length → c j = 3 → L j = true → (j < i → (nthN (masks all []) i).testBit j = false) → ∀ n sz, ρ (σ j).q = some ⟨n, 0, sz⟩ → (∀ y z, live g y → ρ y = some z → z.n ≠ n) → ∀ y z, live (addAll (pickM true (nthN (masks all []) i) (σ i).al) g) y → ρ y = some z → z.n ≠ n := by
      intro j hj hcj hlj hbj n sz hq hlive y z hl hz
      rcases live_add hl with ⟨k1, _⟩ | ⟨x, k1, k2, _⟩
      · exact hlive y z k1 hz
      · obtain ⟨i0, m1, m2, m3, m4, m5, m6⟩ := hal x k1
        have hne : i0 ≠ j := fun hh => by
          subst hh
          rw [hbj m1] at m5; cases m5
        rw [← k2, m3] at hz
        exact I.sep i0 j (by omega) hj m2 hcj m4 hlj hne z ⟨n, 0, sz⟩ hz hq
    have n3 : ∀ j, c j = 3 → more L i j = L j := fun j hj => more_ne (fun hh => by rw [hh, h4] at hj; cases hj)
    refine ⟨ρ', h'', s'', (I.ar.mono p.le).put (by rw [hvu]; exact hx), I.tx.put R.hd ho hL, I.px.trans (Nat.le_trans R.s0le I.ge) hjd p, Nat.le_trans I.ge p.up, .inl ⟨i, hi, h4, more_self L i, fun i' m1 m2 m3 => ?_, by rw [hs'], by rw [hs']⟩, fun j hj hcj hl hm => ?_, fun j hj hcj hl => ?_, fun j j' hj hj' hcj hcj' hl hl' hne z z' hz hz' => ?_, p.free, fun j hj hcj hl => ?_⟩
    · by_cases hii : i' = i
      · omega
      · rw [more_ne hii] at m3
        have := (heff i' m1 m2).1 m3; omega
    · rw [n3 j hcj] at hl
      have hbj : j < i → (nthN (masks all []) i).testBit j = false := fun hji => hm i hi h4 (more_self L i) hji
      obtain ⟨⟨n, sz, ob, g1, g2, g3, g4, g5⟩, g6⟩ := I.own j hj hcj hl (fun i' m1 m2 m3 m4 => hm i' m1 m2 (by unfold more; rw [m3]; rfl) m4)
      have hout := hin j hj hcj hl hbj n sz g1 g5
      have hnw : n < w.heap.size := (Array.getElem?_eq_some_iff.1 g2).1
      refine ⟨⟨n, sz, ob, p.le.of _ _ g1, ?_, g3.mono p.le, g4, fun y z hly hz => ?_⟩, g6⟩
      · rw [p.keep n hnw hout]; exact g2
      · rcases p.dom y z hly hz with ⟨b0, x0, m1, m2, m3⟩ | m1
        · rw [← m3]; exact hout b0 x0 m1 m2
        · omega
    · rw [n3 j hcj] at hl
      obtain ⟨z, g1, g2⟩ := I.low j hj hcj hl
      exact ⟨z, p.le.of _ _ g1, Nat.lt_of_lt_of_le g2 p.size⟩
    · rw [n3 j hcj] at hl; rw [n3 j' hcj'] at hl'
      obtain ⟨y, g1, _⟩ := I.low j hj hcj hl
      obtain ⟨y', g1', _⟩ := I.low j' hj' hcj' hl'
      have e1 := p.le.of _ _ g1; have e2 := p.le.of _ _ g1'
      rw [e1] at hz; injection hz with hz; subst hz
      rw [e2] at hz'; injection hz' with hz'; subst hz'
      exact I.sep j j' hj hj' hcj hcj' hl hl' hne _ _ g1 g1'
    · rw [n3 j hcj] at hl
      rw [p.low _ (by have := (R.qlim hcj hj).2; have := I.ge; omega)]
      exact I.fresh j hj hcj hl
/-- Whatever is ready comes up. -/
theorem Inv.step (hih : SoundRn P ih) (hpr : SoundPr P pr) (cl : Closed all L) (I : Inv D all t0 h0 s0 lim σ v b c e w0 L ρ tX g sX a w) {i : Nat} (ho : all[i]? = some o) (hr : ∀ e ∈ o.after, Region.binds .any e = true → L e.on = true) (hL : L i = false)
    {K : Act → World → Prop} {Q : Exit → Act → World → Prop} (hK : ∀ ρ' tX' g' s' a' w', Inv D all t0 h0 s0 lim σ v b c e w0 (more L i) ρ' tX' g' s' a' w' → K a' w') : wpOp P all.toArray Q i K a w := by
  have hag := R.agree cl ho hr hL I.tx
  have hwant : Region.wanted o (yielded all.toArray a.tmps) = want all (σ i).t o.guard := by
    rw [want_ok (all := all) I.ar.tr, want_congr hag]
  have st := R.tr.step i o (Nat.zero_le _) ho
  unfold wpOp
  rw [show all.toArray[i]? = some o by simpa using ho]
  simp only
  rw [hwant]
  by_cases h4 : c i = 4
  · rw [h4] at st
    cases st with
    | eff hw hc he hv hs' =>
      rw [hw]
      simp only [if_true]
      left
      exact wp_of_gives (I.acts R hih hpr cl ho hr hL h4) (fun x w' ⟨ρ', g', s', I'⟩ => hK _ _ _ _ _ _ I')
  · by_cases h3 : c i = 3
    · rw [h3] at st
      cases st with
      | @make t' h' s' hw hc he hv hb hs' =>
        rw [hw]
        simp only [if_true]
        left
        rw [opF_looks hag] at he
        obtain ⟨u, blk, k1, k2, k3, x, ob, sz, k4, k5⟩ := allocF_ok (o := o) (w := w) (a := a) (e := ρ) he trivial hc I.ar
        injection k1 with e1 e2 e3
        have hvi : v i = u := by rw [hv, e1]; rfl
        have hbi : b i = blk := by rw [hb, e2]; exact k2
        obtain ⟨ρ', I'⟩ := I.made R ho hL h3 (x := x) (ob := ob) (sz := sz) (by rw [hbi]; exact k3) (fun ρ' h1 h2 => by rw [hvi, hbi]; exact k5 ρ' h1 h2)
        exact wp_of_gives (R := fun x' w' => x' = x ∧ w' = w.alloc ob) (gives_value k4 ⟨rfl, rfl⟩) (fun x' w' hx => by obtain ⟨rfl, rfl⟩ := hx; exact hK _ _ _ _ _ _ I')
    · have fin : ∀ x, VR ρ (v i) x → K (a.put o.dst x) w := fun x hx => hK _ _ _ _ _ _ (I.idle R ho hL h3 h4 hx)
      generalize hci : c i = k at st h3 h4
      cases st with
      | skip hw hv hs' =>
        rw [hw]
        simp only [Bool.false_eq_true, if_false]
        exact fin undef (by rw [hv]; exact undef_VR)
      | @pure t' h' s' hw hc he hv hs' =>
        rw [hw]
        simp only [if_true]
        left
        rw [opF_looks hag] at he
        have he' : opF o.op P pr ih tX g 0 kid0 = .norm t' h' s' := by rw [opF_indep hc]; exact he
        obtain ⟨u, x, k1, k2, k3⟩ := pureF_ok (o := o) he' trivial (.inl hc) I.ar I.px.sim
        have := kid0_val k1
        exact wp_of_gives (R := fun x' w' => x' = x ∧ w' = w) (gives_value k3 ⟨rfl, rfl⟩) (fun x' w' hx => by obtain ⟨rfl, rfl⟩ := hx; exact fin _ (by rw [hv, this]; exact k2))
      | read hw hc he hv hs' =>
        rw [hw]
        simp only [if_true]
        left
        obtain ⟨t', h', s', m1, m2⟩ := R.stage_read cl ho hr hL hci I.st
        rw [opF_looks hag] at m1
        obtain ⟨u, x, k1, k2, k3⟩ := pureF_ok (o := o) m1 trivial (.inr hc) I.ar I.px.sim
        have := kid0_val k1
        exact wp_of_gives (R := fun x' w' => x' = x ∧ w' = w) (gives_value k3 ⟨rfl, rfl⟩) (fun x' w' hx => by obtain ⟨rfl, rfl⟩ := hx; exact fin _ (by rw [← m2, this]; exact k2))
      | make => exact absurd rfl h3
      | eff => exact absurd rfl h4
/-- Everything has come up. -/
theorem Inv.done (I : Inv D all t0 h0 s0 lim σ v b c e w0 L ρ tX g sX a w) (hL : ∀ i, i < all.length → L i = true) :
    AR D ρ (σ all.length).t a ∧ Post e s0 h0 w0 ρ (σ all.length).s (addAll (σ all.length).al (σ all.length).g) w := by
  have hstage : g = (σ all.length).g ∧ sX = (σ all.length).s := by
    rcases I.st with ⟨i0, k1, k2, k3, k4, k5, k6⟩ | ⟨k1, k2, k3⟩
    · have := R.same (i0 + 1) all.length k1 (Nat.le_refl _) (fun m m1 m2 m3 => by have := k4 m m2 m3 (hL m m2); omega)
      exact ⟨by rw [k5, this.1], by rw [k6, this.2]⟩
    · have := R.same 0 all.length (Nat.zero_le _) (Nat.le_refl _) (fun m m1 m2 m3 => by have := k1 m m2 m3; rw [hL m m2] at this; cases this)
      exact ⟨by rw [k2, this.1], by rw [k3, this.2]⟩
  obtain ⟨hg, hs⟩ := hstage
  have hown : ∀ x ∈ (σ all.length).al, ∃ i0, i0 < all.length ∧ c i0 = 3 ∧ x = ⟨i0, (σ i0).q, b i0⟩ ∧ Own ρ w w0 g (σ i0).q (b i0) := fun x hx => by
    obtain ⟨i0, m1, m2, m3, m4⟩ := (R.al all.length (Nat.le_refl _) x).1 hx
    exact ⟨i0, m1, m2, m3, I.own i0 m1 m2 (hL i0 m1) (fun i' n1 n2 n3 n4 => m4 i' n2 n4 n1)⟩
  obtain ⟨hj, hjd⟩ := join (w0 := w0) (by rw [I.px.le.base]; exact I.px.lim0) (l := (σ all.length).al) I.px.sim
    (fun x hx => by obtain ⟨i0, m1, m2, m3, m4⟩ := hown x hx; rw [m3]; exact m4)
    (fun x hx y hy hne z z' hz hz' => by
      obtain ⟨i0, m1, m2, m3, m4⟩ := hown x hx
      obtain ⟨i1, n1, n2, n3, n4⟩ := hown y hy
      rw [m3] at hz hne; rw [n3] at hz' hne
      exact I.sep i0 i1 m1 n1 m2 n2 (hL i0 m1) (hL i1 n1) (fun hh => hne (by rw [hh])) z z' hz hz')
  refine ⟨⟨⟨fun d => ?_, fun d => ?_⟩, I.ar.nodef⟩, I.px.le, I.px.low, ?_, ?_, ?_, fun y z hl hz => ?_, I.px.keep, I.px.size, I.px.os, I.px.tape, I.px.output⟩
  · rw [(R.tx all.length (Nat.le_refl _)).has, ← I.tx.has]; exact I.ar.tr.has d
  · have : (σ all.length).t.get un d = tX.get un d := (R.tx all.length (Nat.le_refl _)).agree R.hd I.tx (fun j o' ho' _ => by
      rw [hL j (R.lt ho')]; simpa using R.lt ho')
    rw [this]; exact I.ar.tr.val d
  · rw [← hs]; exact Nat.le_trans R.s0le I.ge
  · rw [← hs]; exact I.free
  · rw [← hg]; exact hj
  · rw [← hg] at hl
    rcases hjd y z hl hz with h1 | h1
    · exact I.px.dom y z h1 hz
    · exact .inr h1
end
end Go.Ev
