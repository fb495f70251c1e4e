/- An evaluator of the model's code: memory in the midst of a region that draws its order. -/
import Derived.Test.YtnklmadmenkdoaaGreatEvX
set_option linter.unusedVariables false
set_option linter.unusedSimpArgs false
set_option linter.unusedSectionVars false
namespace Go.Ev
variable {D : List Deferred}
variable {P : Program} {pr : Prims} {ih : Rn} {e : Env} {t0 : T V} {h : H} {w : World} {a : Act} {o : Oper}
variable {all : List Oper} {σ : Nat → St} {v : Nat → V} {b : Nat → B} {c : Nat → Nat} {h0 : H} {s0 lim : Nat}
/-- How much has been done to memory. -/
def Stage (all : List Oper) (h0 : H) (lim : Nat) (σ : Nat → St) (c : Nat → Nat) (L : Nat → Bool) (g : H) (s : Nat) : Prop :=
  (∃ i, i < all.length ∧ c i = 4 ∧ L i = true ∧ (∀ i', i' < all.length → c i' = 4 → L i' = true → i' ≤ i) ∧ g = (σ (i + 1)).g ∧ s = (σ (i + 1)).s) ∨
  ((∀ i, i < all.length → c i = 4 → L i = false) ∧ g = (σ 0).g ∧ s = (σ 0).s)
theorem again_ok {op : Op} {t : T V} {x : V} {g : H} (h : again op t x g P pr ih = true) : ∃ t' h' s', opF op P pr ih t g 0 kid0 = .norm t' h' s' ∧ t'.get un 0 = x := by
  unfold again at h
  split at h
  · rename_i t' h' s' he; exact ⟨t', h', s', he, veqB_ok h⟩
  · cases h
/-- The first effect from a place on. -/
theorem first_eff (c : Nat → Nat) : ∀ (n j : Nat), (∀ m, j ≤ m → m < j + n → c m ≠ 4) ∨ ∃ m, j ≤ m ∧ m < j + n ∧ c m = 4 ∧ ∀ k, j ≤ k → k < m → c k ≠ 4
  | 0, j => .inl (fun m h1 h2 => by omega)
  | n + 1, j => by
    rcases first_eff c n j with h | ⟨m, h1, h2, h3, h4⟩
    · by_cases hc : c (j + n) = 4
      · exact .inr ⟨j + n, by omega, by omega, hc, fun k h1 h2 => h k h1 h2⟩
      · refine .inl (fun m h1 h2 => ?_)
        by_cases hm : m = j + n
        · rw [hm]; exact hc
        · exact h m h1 (by omega)
    · exact .inr ⟨m, h1, by omega, h3, h4⟩
section
variable (R : Rgn all P pr ih t0 h0 s0 lim σ v b c)
include R
theorem Rgn.listed {L : Nat → Bool} (cl : Closed all L) {i j : Nat} (hi : i < all.length) (hL : L i = true) (hb : (nthN (masks all []) i).testBit j = true) : L j = true ∧ j < i := by
  obtain ⟨o, ho⟩ := R.at hi
  exact mask_listed R.hd cl (i + 1) i o (by omega) ho (cl i o ho hL) j hb
theorem Rgn.ready {L : Nat → Bool} (cl : Closed all L) {i j : Nat} {o : Oper} (ho : all[i]? = some o) (hr : ∀ e ∈ o.after, Region.binds .any e = true → L e.on = true) (hb : (nthN (masks all []) i).testBit j = true) : L j = true ∧ j < i :=
  mask_listed R.hd cl (i + 1) i o (by omega) ho hr j hb
theorem Rgn.chain {i j : Nat} (hi : i < all.length) (hji : j < i) (hci : c i = 4) (hcj : c j = 4) : (nthN (masks all []) i).testBit j = true := by
  obtain ⟨o, ho⟩ := R.at hi
  obtain ⟨p, hp⟩ := R.at (i := j) (by omega)
  have h1 := R.tr.step i o (Nat.zero_le _) ho
  have h2 := R.tr.step j p (Nat.zero_le _) hp
  rw [hci] at h1; rw [hcj] at h2
  exact (R.hd.pair i o ho j p hp (by omega)).eff hji h1.cls h2.cls
/-- The effect that is next finds memory as the pass had it. -/
theorem Rgn.stage_eff {L : Nat → Bool} (cl : Closed all L) {i : Nat} {o : Oper} (ho : all[i]? = some o) (hr : ∀ e ∈ o.after, Region.binds .any e = true → L e.on = true) (hL : L i = false) (hc : c i = 4) {g : H} {s : Nat} (st : Stage all h0 lim σ c L g s) :
    g = (σ i).g ∧ s = (σ i).s ∧ ∀ i', i' < all.length → c i' = 4 → (L i' = true ↔ i' < i) := by
  have hi := R.lt ho
  have hall : ∀ i', i' < all.length → c i' = 4 → (L i' = true ↔ i' < i) := fun i' h1 h2 => by
    constructor
    · intro h3
      rcases Nat.lt_trichotomy i' i with h4 | h4 | h4
      · exact h4
      · subst h4; rw [hL] at h3; cases h3
      · have := R.listed cl h1 h3 (R.chain h1 h4 h2 hc)
        rw [hL] at this; cases this.1
    · intro h3
      exact (R.ready cl ho hr (R.chain hi h3 hc h2)).1
  rcases st with ⟨i0, h1, h2, h3, h4, h5, h6⟩ | ⟨h1, h2, h3⟩
  · have hlt := (hall i0 h1 h2).1 h3
    have := R.same (i0 + 1) i hlt (by omega) (fun m hm1 hm2 hm3 => by
      have := h4 m (by omega) hm3 ((hall m (by omega) hm3).2 hm2)
      omega)
    exact ⟨by rw [h5, this.1], by rw [h6, this.2], hall⟩
  · have := R.same 0 i (Nat.zero_le _) (by omega) (fun m hm1 hm2 hm3 => by
      have := h1 m (by omega) hm3
      rw [(hall m (by omega) hm3).2 hm2] at this; cases this)
    exact ⟨by rw [h2, this.1], by rw [h3, this.2], hall⟩
/-- What is read reads the same wherever it comes up. -/
theorem Rgn.stage_read {L : Nat → Bool} (cl : Closed all L) {i : Nat} {o : Oper} (ho : all[i]? = some o) (hr : ∀ e ∈ o.after, Region.binds .any e = true → L e.on = true) (hL : L i = false) (hc : c i = 2) {g : H} {s : Nat} (st : Stage all h0 lim σ c L g s) :
    ∃ t' h' s', opF o.op P pr ih (σ i).t g 0 kid0 = .norm t' h' s' ∧ t'.get un 0 = v i := by
  have hi := R.lt ho
  have own : ∃ t' h' s', opF o.op P pr ih (σ i).t (σ i).g 0 kid0 = .norm t' h' s' ∧ t'.get un 0 = v i := by
    have := R.tr.step i o (Nat.zero_le _) ho
    rw [hc] at this
    cases this with
    | read hw hc he hv hs => exact ⟨_, _, _, he, hv.symm⟩
  -- an effect that has not come up, ahead of i in the text
  have ahead : ∀ i1, i1 < i → c i1 = 4 → L i1 = false → again o.op (σ i).t (v i) (σ i1).g P pr ih = true := fun i1 h1 h2 h3 => by
    refine R.tr.down i1 i o (Nat.zero_le _) h1 ho h2 hc ?_
    cases hb : (nthN (masks all []) i).testBit i1 with
    | false => rfl
    | true => have := (R.ready cl ho hr hb).1; rw [h3] at this; cases this
  rcases st with ⟨i0, h1, h2, h3, h4, h5, h6⟩ | ⟨h1, h2, h3⟩
  · rcases Nat.lt_trichotomy i0 i with h7 | h7 | h7
    · rcases first_eff c (i - (i0 + 1)) (i0 + 1) with hn | ⟨m, m1, m2, m3, m4⟩
      · have := R.same (i0 + 1) i h7 (by omega) (fun m hm1 hm2 => hn m hm1 (by omega))
        rw [h5, ← this.1]; exact own
      · have := R.same (i0 + 1) m m1 (by omega) (fun k k1 k2 => m4 k k1 k2)
        have hLm : L m = false := by
          cases hLm : L m with
          | false => rfl
          | true => have := h4 m (by omega) m3 hLm; omega
        have hag := ahead m (by omega) m3 hLm
        rw [this.1, ← h5] at hag
        exact again_ok hag
    · subst h7; rw [hc] at h2; cases h2
    · obtain ⟨o', ho'⟩ := R.at h1
      have hb : (nthN (masks all []) i0).testBit i = false := by
        cases hb : (nthN (masks all []) i0).testBit i with
        | false => rfl
        | true => have := (R.listed cl h1 h3 hb).1; rw [hL] at this; cases this
      have hag := R.tr.up i i0 o o' (Nat.zero_le _) h7 ho ho' hc h2 hb
      rw [← h5] at hag
      exact again_ok hag
  · rcases first_eff c i 0 with hn | ⟨m, m1, m2, m3, m4⟩
    · have := R.same 0 i (Nat.zero_le _) (by omega) (fun m hm1 hm2 => hn m hm1 (by omega))
      rw [h2, ← this.1]; exact own
    · have := R.same 0 m m1 (by omega) (fun k k1 k2 => m4 k k1 k2)
      have hag := ahead m (by omega) m3 (h1 m (by omega) m3)
      rw [this.1, ← h2] at hag
      exact again_ok hag
end
/-- What a piece of a run has left, whatever numbers it goes on with. -/
structure PX (e : Env) (s : Nat) (h : H) (w : World) (e' : Env) (h' : H) (w' : World) : Prop where
  le : e.le e'
  low : ∀ b, b < s → e' b = e b
  sim : Sim e' h' w'
  dom : ∀ b x, live h' b → e' b = some x → (∃ b₀ x₀, live h b₀ ∧ e b₀ = some x₀ ∧ x₀.n = x.n) ∨ w.heap.size ≤ x.n
  keep : ∀ n, n < w.heap.size → (∀ b x, live h b → e b = some x → x.n ≠ n) → w'.heap[n]? = w.heap[n]?
  size : w.heap.size ≤ w'.heap.size
  os : w'.os = w.os
  tape : w'.tape = w.tape
  output : w'.output = w.output
theorem PX.refl {s : Nat} (hs : Sim e h w) : PX e s h w e h w :=
  ⟨Env.le.refl e, fun _ _ => rfl, hs, fun b x hb hx => .inl ⟨b, x, hb, hx, rfl⟩, fun _ _ _ => rfl, Nat.le_refl _, rfl, rfl, rfl⟩
/-- Going on from a memory that holds what was there and new blocks. -/
theorem PX.trans {s s1 s2 : Nat} {e' e'' : Env} {h' h1 h'' : H} {w' w'' : World} (p : PX e s h w e' h' w') (hs : s ≤ s1) (hd : ∀ b x, live h1 b → e' b = some x → live h' b ∨ w.heap.size ≤ x.n) (q : Post e' s1 h1 w' e'' s2 h'' w'') : PX e s h w e'' h'' w'' where
  le := p.le.trans q.le
  low := fun b hb => (q.low b (by omega)).trans (p.low b hb)
  sim := q.sim
  dom := fun b x hb hx => by
    rcases q.dom b x hb hx with ⟨b₀, x₀, g1, g2, g3⟩ | g1
    · rcases hd b₀ x₀ g1 g2 with g4 | g4
      · rcases p.dom b₀ x₀ g4 g2 with ⟨b₁, x₁, k1, k2, k3⟩ | k1
        · exact .inl ⟨b₁, x₁, k1, k2, k3.trans g3⟩
        · exact .inr (g3 ▸ k1)
      · exact .inr (g3 ▸ g4)
    · exact .inr (Nat.le_trans p.size g1)
  keep := fun n hn hk => by
    rw [q.keep n (Nat.lt_of_lt_of_le hn p.size) (fun b x hb hx => ?_), p.keep n hn hk]
    rcases hd b x hb hx with g4 | g4
    · rcases p.dom b x g4 hx with ⟨b₀, x₀, k1, k2, k3⟩ | k1
      · rw [← k3]; exact hk b₀ x₀ k1 k2
      · exact fun he => absurd (he ▸ k1) (by omega)
    · exact fun he => absurd (he ▸ g4) (by omega)
  size := Nat.le_trans p.size q.size
  os := q.os.trans p.os
  tape := q.tape.trans p.tape
  output := q.output.trans p.output
/-- A block that was made and that no effect has met. -/
structure Own (ρ : Env) (w w0 : World) (g : H) (q : Nat) (blk : B) : Prop where
  ex : ∃ n sz ob, ρ q = some ⟨n, 0, sz⟩ ∧ w.heap[n]? = some ob ∧ BR ρ ⟨n, 0, sz⟩ blk ob ∧ w0.heap.size ≤ n ∧ ∀ b x, live g b → ρ b = some x → x.n ≠ n
  gone : blk ≠ .gone
theorem live_add {g : H} : ∀ {l : List AL} {b : Nat}, live (addAll l g) b → (live g b ∧ (addAll l g).get .gone b = g.get .gone b) ∨ ∃ x ∈ l, x.id = b ∧ (addAll l g).get .gone b = x.b
  | [], b, hl => .inl ⟨hl, rfl⟩
  | y :: l, b, hl => by
    have e1 : addAll (y :: l) g = (addAll l g).set y.id y.b := rfl
    rw [e1] at hl ⊢
    cases hh : (addAll l g).has y.id with
    | false =>
      rw [T.set_off _ _ _ hh] at hl ⊢
      rcases live_add hl with h1 | ⟨x, h1, h2, h3⟩
      · exact .inl h1
      · exact .inr ⟨x, List.mem_cons_of_mem _ h1, h2, h3⟩
    | true =>
      by_cases hb : b = y.id
      · exact .inr ⟨y, List.mem_cons_self, hb.symm, by rw [T.get_set .gone _ _ _ _ hh, if_pos hb]⟩
      · have hg : ((addAll l g).set y.id y.b).get .gone b = (addAll l g).get .gone b := by rw [T.get_set .gone _ _ _ _ hh, if_neg hb]
        have hl' : live (addAll l g) b := by unfold live at hl ⊢; rwa [hg] at hl
        rcases live_add hl' with ⟨h1, h2⟩ | ⟨x, h1, h2, h3⟩
        · exact .inl ⟨h1, hg.trans h2⟩
        · exact .inr ⟨x, List.mem_cons_of_mem _ h1, h2, hg.trans h3⟩
/-- Memory with blocks that were made. -/
theorem join {ρ : Env} {w0 : World} {g : H} {l : List AL} (hs : Sim ρ g w) (ho : ∀ x ∈ l, Own ρ w w0 g x.id x.b) (hsep : ∀ x ∈ l, ∀ y ∈ l, x.id ≠ y.id → ∀ z z', ρ x.id = some z → ρ y.id = some z' → z.n ≠ z'.n) :
    Sim ρ (addAll l g) w ∧ ∀ b x, live (addAll l g) b → ρ b = some x → live g b ∨ w0.heap.size ≤ x.n := by
  refine ⟨⟨fun b hl => ?_, fun b b' x x' hl hl' hx hx' hn => ?_⟩, fun b x hl hx => ?_⟩
  · rcases live_add hl with ⟨h1, h2⟩ | ⟨y, h1, h2, h3⟩
    · rw [h2]; exact hs.blk b h1
    · obtain ⟨n, sz, ob, g1, g2, g3, g4, g5⟩ := (ho y h1).ex
      rw [h3, ← h2]
      exact ⟨_, ob, g1, g2, g3⟩
  · rcases live_add hl with ⟨h1, h2⟩ | ⟨y, h1, h2, h3⟩ <;> rcases live_add hl' with ⟨k1, k2⟩ | ⟨y', k1, k2, k3⟩
    · exact hs.inj b b' x x' h1 k1 hx hx' hn
    · obtain ⟨n, sz, ob, g1, g2, g3, g4, g5⟩ := (ho y' k1).ex
      rw [← k2, g1] at hx'; injection hx' with hx'; subst hx'
      exact absurd hn (g5 b x h1 hx)
    · obtain ⟨n, sz, ob, g1, g2, g3, g4, g5⟩ := (ho y h1).ex
      rw [← h2, g1] at hx; injection hx with hx; subst hx
      exact absurd hn.symm (g5 b' x' k1 hx')
    · by_cases hid : y.id = y'.id
      · rw [← h2, ← k2]; exact hid
      · rw [← h2] at hx; rw [← k2] at hx'
        exact absurd hn (hsep y h1 y' k1 hid x x' hx hx')
  · rcases live_add hl with ⟨h1, h2⟩ | ⟨y, h1, h2, h3⟩
    · exact .inl h1
    · obtain ⟨n, sz, ob, g1, g2, g3, g4, g5⟩ := (ho y h1).ex
      rw [← h2, g1] at hx; injection hx with hx; subst hx
      exact .inr g4
end Go.Ev
