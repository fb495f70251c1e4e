/- An evaluator of the model's code: regions that draw their order, whole. An evaluator of the model's code: a region that draws its order is followed rightly. -/
import Derived.Test.YtgidckkcibplgaaGreatEvY
import Derived.Orders
set_option linter.unusedVariables false
set_option linter.unusedSimpArgs false
set_option linter.unusedSectionVars false
namespace Go.Ev
variable {D : List Deferred}
variable {P : Program} {pr : Prims} {ih : Rn} {e : Env} {t0 : T V} {h : H} {w : World} {a : Act} {o : Oper}
variable {all : List Oper} {σ : Nat → St} {v : Nat → V} {b : Nat → B} {c : Nat → Nat} {h0 : H} {s0 lim : Nat} {w0 : World}
theorem wp_of_gives {R : Value → World → Prop} {next : Act → World → Prop} {Q : Exit → Act → World → Prop} (hg : Gives P (execOp a.eval o) w R) (hn : ∀ x w', R x w' → next (a.put o.dst x) w') : o.wp P a w next Q := by
  unfold Oper.wp
  unfold Gives at hg
  generalize (execOp a.eval o).run P w = res at *
  cases res with
  | halt x w' => cases x <;> exact hg.elim
  | ok n w' =>
    cases n with
    | value x => exact hn _ _ hg
    | skip => exact hn _ _ hg
    | enter f args => exact Calls.mono hg (fun en w'' ⟨x, he, hr⟩ => by subst he; exact hn _ _ hr)
    | _ => exact hg.elim
/-- Where one way is left, it is that. -/
theorem sub_norm {x : RO} {t : T V} {h : H} {s : Nat} (hx : Sub x (.norm t h s)) : x = .norm t h s := by cases hx; rfl
theorem opF_one {t t' : T V} {h h' : H} {s s' : Nat} (hk : opF o.op P pr ih t h s kid = .norm t' h' s') (hih : SoundRn P ih) (hpr : SoundPr P pr) (ha : AR D e t a) (hs : Sim e h w) (hf : Free e s) : Gives P (execOp a.eval o) w (Good e s h w (t'.get un 0) h' s') :=
  Gives.mono (opF_ok hk trivial hih hpr ha hs hf) (fun x w' hx => by
    obtain ⟨v, h'', s'', g1, g2⟩ := hx
    have := sub_norm g1
    unfold kid at this
    injection this with k1 k2 k3
    subst k1 k2 k3
    exact g2)
section
variable (R : Rgn all P pr ih t0 h0 s0 lim σ v b c) {L : Nat → Bool} {ρ : Env} {tX : T V} {g : H} {sX : Nat}
include R
theorem Rgn.s0le : s0 ≤ lim := by
  have h1 := R.qle 0 all.length (Nat.zero_le _) (Nat.le_refl _)
  rw [R.z] at h1
  exact Nat.le_trans h1 R.q
/-- An operation that acts. -/
theorem Inv.acts (hih : SoundRn P ih) (hpr : SoundPr P pr) (cl : Closed all L) (I : Inv D all t0 h0 s0 lim σ v b c e w0 L ρ tX g sX a w) {i : Nat} (ho : all[i]? = some o) (hr : ∀ e ∈ o.after, Region.binds .any e = true → L e.on = true) (hL : L i = false) (h4 : c i = 4) :
    Gives P (execOp a.eval o) w (fun x w' => ∃ ρ' g' s', Inv D all t0 h0 s0 lim σ v b c e w0 (more L i) ρ' (putT o.dst tX (v i)) g' s' (a.put o.dst x) w') := by
  have hi := R.lt ho
  obtain ⟨hg, hs, heff⟩ := R.stage_eff cl ho hr hL h4 I.st
  have st := R.tr.step i o (Nat.zero_le _) ho
  rw [h4] at st
  cases st with
  | @eff t' h' s' hw hc he hv hs' =>
    have hal : ∀ x ∈ pickM true (nthN (masks all []) i) (σ i).al, ∃ i0, i0 < i ∧ c i0 = 3 ∧ x = ⟨i0, (σ i0).q, b i0⟩ ∧ L i0 = true ∧ (nthN (masks all []) i).testBit i0 = true ∧ Own ρ w w0 g (σ i0).q (b i0) := fun x hx => by
      obtain ⟨k1, k2⟩ := mem_pick.1 hx
      obtain ⟨i0, m1, m2, m3, m4⟩ := (R.al i (by omega) x).1 k1
      have hb : (nthN (masks all []) i).testBit i0 = true := by rw [m3] at k2; exact k2
      have hl := (R.ready cl ho hr hb).1
      exact ⟨i0, m1, m2, m3, hl, hb, I.own i0 (by omega) m2 hl (fun i' n1 n2 n3 n4 => m4 i' n2 n4 ((heff i' n1 n2).1 n3))⟩
    obtain ⟨hj, hjd⟩ := join (w0 := w0) (by rw [I.px.le.base]; exact I.px.lim0) (l := pickM true (nthN (masks all []) i) (σ i).al) I.px.sim
      (fun x hx => by obtain ⟨i0, m1, m2, m3, m4, m5, m6⟩ := hal x hx; rw [m3]; exact m6)
      (fun x hx y hy hne z z' hz hz' => by
        obtain ⟨i0, m1, m2, m3, m4, m5, m6⟩ := hal x hx
        obtain ⟨i1, n1, n2, n3, n4, n5, n6⟩ := hal y hy
        rw [m3] at hz hne; rw [n3] at hz' hne
        exact I.sep i0 i1 (by omega) (by omega) m2 n2 m4 n4 (fun hh => hne (by rw [hh])) z z' hz hz')
    rw [opF_looks (R.agree cl ho hr hL I.tx), ← hg, ← hs] at he
    have k2 := opF_one (o := o) he hih hpr I.ar hj I.free
    obtain ⟨u, hu⟩ : ∃ u, u = t'.get un 0 := ⟨_, rfl⟩
    rw [← hu] at k2
    obtain ⟨h'', e2⟩ : ∃ x, x = h' := ⟨_, rfl⟩
    obtain ⟨s'', e3⟩ : ∃ x, x = s' := ⟨_, rfl⟩
    subst e2 e3
    have hvu : v i = u := by rw [hu]; exact hv
    refine k2.mono (fun x w' hx => ?_)
    obtain ⟨ρ', hx, p⟩ := hx
    have hin : ∀ j, j < all.length → c j = 3 → L j = true → (j < i → (nthN (masks all []) i).testBit j = false) → ∀ n sz, ρ (σ j).q = some ⟨n, 0, sz⟩ → (∀ y z, live g y → ρ y = some z → z.n ≠ n) → ∀ y z, live (addAll (pickM true (nthN (masks all []) i) (σ i).al) g) y → ρ y = some z → z.n ≠ n := by
      intro j hj hcj hlj hbj n sz hq hlive y z hl hz
      rcases live_add hl with ⟨k1, _⟩ | ⟨x, k1, k2, _⟩
      · exact hlive y z k1 hz
      · obtain ⟨i0, m1, m2, m3, m4, m5, m6⟩ := hal x k1
        have hne : i0 ≠ j := fun hh => by
          subst hh
          rw [hbj m1] at m5; cases m5
        rw [← k2, m3] at hz
        exact I.sep i0 j (by omega) hj m2 hcj m4 hlj hne z ⟨n, 0, sz⟩ hz hq
    have n3 : ∀ j, c j = 3 → more L i j = L j := fun j hj => more_ne (fun hh => by rw [hh, h4] at hj; cases hj)
    refine ⟨ρ', h'', s'', (I.ar.mono p.le).put (by rw [hvu]; exact hx), I.tx.put R.hd ho hL, I.px.trans (Nat.le_trans R.s0le I.ge) hjd p, Nat.le_trans I.ge p.up, .inl ⟨i, hi, h4, more_self L i, fun i' m1 m2 m3 => ?_, by rw [hs'], by rw [hs']⟩, fun j hj hcj hl hm => ?_, fun j hj hcj hl => ?_, fun j j' hj hj' hcj hcj' hl hl' hne z z' hz hz' => ?_, p.free, fun j hj hcj hl => ?_⟩
    · by_cases hii : i' = i
      · omega
      · rw [more_ne hii] at m3
        have := (heff i' m1 m2).1 m3; omega
    · rw [n3 j hcj] at hl
      have hbj : j < i → (nthN (masks all []) i).testBit j = false := fun hji => hm i hi h4 (more_self L i) hji
      obtain ⟨⟨n, sz, ob, g1, g2, g3, g4, g5⟩, g6⟩ := I.own j hj hcj hl (fun i' m1 m2 m3 m4 => hm i' m1 m2 (by unfold more; rw [m3]; rfl) m4)
      have hout := hin j hj hcj hl hbj n sz g1 g5
      have hnw : n < w.heap.size := (Array.getElem?_eq_some_iff.1 g2).1
      refine ⟨⟨n, sz, ob, p.le.of _ _ g1, ?_, g3.mono p.le, g4, fun y z hly hz => ?_⟩, g6⟩
      · rw [p.keep n hnw hout]; exact g2
      · rcases p.dom y z hly hz with ⟨b0, x0, m1, m2, m3⟩ | m1
        · rw [← m3]; exact hout b0 x0 m1 m2
        · omega
    · rw [n3 j hcj] at hl
      obtain ⟨z, g1, g2⟩ := I.low j hj hcj hl
      exact ⟨z, p.le.of _ _ g1, Nat.lt_of_lt_of_le g2 p.size⟩
    · rw [n3 j hcj] at hl; rw [n3 j' hcj'] at hl'
      obtain ⟨y, g1, _⟩ := I.low j hj hcj hl
      obtain ⟨y', g1', _⟩ := I.low j' hj' hcj' hl'
      have e1 := p.le.of _ _ g1; have e2 := p.le.of _ _ g1'
      rw [e1] at hz; injection hz with hz; subst hz
      rw [e2] at hz'; injection hz' with hz'; subst hz'
      exact I.sep j j' hj hj' hcj hcj' hl hl' hne _ _ g1 g1'
    · rw [n3 j hcj] at hl
      rw [p.low _ (by have := (R.qlim hcj hj).2; have := I.ge; omega)]
      exact I.fresh j hj hcj hl
/-- Whatever is ready comes up. -/
theorem Inv.step (hih : SoundRn P ih) (hpr : SoundPr P pr) (cl : Closed all L) (I : Inv D all t0 h0 s0 lim σ v b c e w0 L ρ tX g sX a w) {i : Nat} (ho : all[i]? = some o) (hr : ∀ e ∈ o.after, Region.binds .any e = true → L e.on = true) (hL : L i = false)
    {K : Act → World → Prop} {Q : Exit → Act → World → Prop} (hK : ∀ ρ' tX' g' s' a' w', Inv D all t0 h0 s0 lim σ v b c e w0 (more L i) ρ' tX' g' s' a' w' → K a' w') : wpOp P all.toArray Q i K a w := by
  have hag := R.agree cl ho hr hL I.tx
  have hwant : Region.wanted o (yielded all.toArray a.tmps) = want all (σ i).t o.guard := by
    rw [want_ok (all := all) I.ar.tr, want_congr hag]
  have st := R.tr.step i o (Nat.zero_le _) ho
  unfold wpOp
  rw [show all.toArray[i]? = some o by simpa using ho]
  simp only
  rw [hwant]
  by_cases h4 : c i = 4
  · rw [h4] at st
    cases st with
    | eff hw hc he hv hs' =>
      rw [hw]
      simp only [if_true]
      left
      exact wp_of_gives (I.acts R hih hpr cl ho hr hL h4) (fun x w' ⟨ρ', g', s', I'⟩ => hK _ _ _ _ _ _ I')
  · by_cases h3 : c i = 3
    · rw [h3] at st
      cases st with
      | @make t' h' s' hw hc he hv hb hs' =>
        rw [hw]
        simp only [if_true]
        left
        rw [opF_looks hag] at he
        obtain ⟨u, blk, k1, k2, k3, x, ob, sz, k4, k5⟩ := allocF_ok (o := o) (w := w) (a := a) (e := ρ) he trivial hc I.ar
        injection k1 with e1 e2 e3
        have hvi : v i = u := by rw [hv, e1]; rfl
        have hbi : b i = blk := by rw [hb, e2]; exact k2
        obtain ⟨ρ', I'⟩ := I.made R ho hL h3 (x := x) (ob := ob) (sz := sz) (by rw [hbi]; exact k3) (fun ρ' h1 h2 => by rw [hvi, hbi]; exact k5 ρ' h1 h2)
        exact wp_of_gives (R := fun x' w' => x' = x ∧ w' = w.alloc ob) (gives_value k4 ⟨rfl, rfl⟩) (fun x' w' hx => by obtain ⟨rfl, rfl⟩ := hx; exact hK _ _ _ _ _ _ I')
    · have fin : ∀ x, VR ρ (v i) x → K (a.put o.dst x) w := fun x hx => hK _ _ _ _ _ _ (I.idle R ho hL h3 h4 hx)
      generalize hci : c i = k at st h3 h4
      cases st with
      | skip hw hv hs' =>
        rw [hw]
        simp only [Bool.false_eq_true, if_false]
        exact fin undef (by rw [hv]; exact undef_VR)
      | @pure t' h' s' hw hc he hv hs' =>
        rw [hw]
        simp only [if_true]
        left
        rw [opF_looks hag] at he
        have he' : opF o.op P pr ih tX g 0 kid0 = .norm t' h' s' := by rw [opF_indep hc]; exact he
        obtain ⟨u, x, k1, k2, k3⟩ := pureF_ok (o := o) he' trivial (.inl hc) I.ar I.px.sim
        have := kid0_val k1
        exact wp_of_gives (R := fun x' w' => x' = x ∧ w' = w) (gives_value k3 ⟨rfl, rfl⟩) (fun x' w' hx => by obtain ⟨rfl, rfl⟩ := hx; exact fin _ (by rw [hv, this]; exact k2))
      | read hw hc he hv hs' =>
        rw [hw]
        simp only [if_true]
        left
        obtain ⟨t', h', s', m1, m2⟩ := R.stage_read cl ho hr hL hci I.st
        rw [opF_looks hag] at m1
        obtain ⟨u, x, k1, k2, k3⟩ := pureF_ok (o := o) m1 trivial (.inr hc) I.ar I.px.sim
        have := kid0_val k1
        exact wp_of_gives (R := fun x' w' => x' = x ∧ w' = w) (gives_value k3 ⟨rfl, rfl⟩) (fun x' w' hx => by obtain ⟨rfl, rfl⟩ := hx; exact fin _ (by rw [← m2, this]; exact k2))
      | make => exact absurd rfl h3
      | eff => exact absurd rfl h4
/-- Everything has come up. -/
theorem Inv.done (I : Inv D all t0 h0 s0 lim σ v b c e w0 L ρ tX g sX a w) (hL : ∀ i, i < all.length → L i = true) :
    AR D ρ (σ all.length).t a ∧ Post e s0 h0 w0 ρ (σ all.length).s (addAll (σ all.length).al (σ all.length).g) w := by
  have hstage : g = (σ all.length).g ∧ sX = (σ all.length).s := by
    rcases I.st with ⟨i0, k1, k2, k3, k4, k5, k6⟩ | ⟨k1, k2, k3⟩
    · have := R.same (i0 + 1) all.length k1 (Nat.le_refl _) (fun m m1 m2 m3 => by have := k4 m m2 m3 (hL m m2); omega)
      exact ⟨by rw [k5, this.1], by rw [k6, this.2]⟩
    · have := R.same 0 all.length (Nat.zero_le _) (Nat.le_refl _) (fun m m1 m2 m3 => by have := k1 m m2 m3; rw [hL m m2] at this; cases this)
      exact ⟨by rw [k2, this.1], by rw [k3, this.2]⟩
  obtain ⟨hg, hs⟩ := hstage
  have hown : ∀ x ∈ (σ all.length).al, ∃ i0, i0 < all.length ∧ c i0 = 3 ∧ x = ⟨i0, (σ i0).q, b i0⟩ ∧ Own ρ w w0 g (σ i0).q (b i0) := fun x hx => by
    obtain ⟨i0, m1, m2, m3, m4⟩ := (R.al all.length (Nat.le_refl _) x).1 hx
    exact ⟨i0, m1, m2, m3, I.own i0 m1 m2 (hL i0 m1) (fun i' n1 n2 n3 n4 => m4 i' n2 n4 n1)⟩
  obtain ⟨hj, hjd⟩ := join (w0 := w0) (by rw [I.px.le.base]; exact I.px.lim0) (l := (σ all.length).al) I.px.sim
    (fun x hx => by obtain ⟨i0, m1, m2, m3, m4⟩ := hown x hx; rw [m3]; exact m4)
    (fun x hx y hy hne z z' hz hz' => by
      obtain ⟨i0, m1, m2, m3, m4⟩ := hown x hx
      obtain ⟨i1, n1, n2, n3, n4⟩ := hown y hy
      rw [m3] at hz hne; rw [n3] at hz' hne
      exact I.sep i0 i1 m1 n1 m2 n2 (hL i0 m1) (hL i1 n1) (fun hh => hne (by rw [hh])) z z' hz hz')
  refine ⟨⟨⟨fun d => ?_, fun d => ?_⟩, I.ar.nodef⟩, I.px.le, I.px.low, ?_, ?_, ?_, fun y z hl hz => ?_, I.px.keep, I.px.size, I.px.os, I.px.tape, I.px.output⟩
  · rw [(R.tx all.length (Nat.le_refl _)).has, ← I.tx.has]; exact I.ar.tr.has d
  · have : (σ all.length).t.get un d = tX.get un d := (R.tx all.length (Nat.le_refl _)).agree R.hd I.tx (fun j o' ho' _ => by
      rw [hL j (R.lt ho')]; simpa using R.lt ho')
    rw [this]; exact I.ar.tr.val d
  · rw [← hs]; exact Nat.le_trans R.s0le I.ge
  · rw [← hs]; exact I.free
  · rw [← hg]; exact hj
  · rw [← hg] at hl
    rcases hjd y z hl hz with h1 | h1
    · exact I.px.dom y z h1 hz
    · exact .inr h1
end
end Go.Ev
namespace Go.Ev
variable {D : List Deferred}
variable {P : Program} {pr : Prims} {ih : Rn} {e : Env} {t : T V} {h : H} {s : Nat} {w : World} {a : Act} {o : Oper}
theorem count_le {p q : Nat → Bool} (h : ∀ x, q x = true → p x = true) : ∀ l : List Nat, l.countP q ≤ l.countP p
  | [] => Nat.le_refl _
  | x :: l => by
    rw [List.countP_cons, List.countP_cons]
    have := count_le h l
    cases hq : q x with
    | true => rw [h x hq]; simp; exact this
    | false => simp; omega
theorem count_lt {p q : Nat → Bool} (h : ∀ x, q x = true → p x = true) {i : Nat} (hp : p i = true) (hq : q i = false) : ∀ l : List Nat, i ∈ l → l.countP q < l.countP p
  | [], hi => by cases hi
  | x :: l, hi => by
    rw [List.countP_cons, List.countP_cons]
    rcases List.mem_cons.1 hi with rfl | hi
    · rw [hp, hq]; have := count_le h l; simp; omega
    · have := count_lt h hp hq l hi
      cases hx : q x with
      | true => rw [h x hx]; simp; exact this
      | false => simp; omega
def listedB (l : Array Bool) (j : Nat) : Bool := l.getD j false
theorem listed_set {l : Array Bool} {i : Nat} (hi : i < l.size) : listedB (l.setIfInBounds i true) = more (listedB l) i := by
  funext j
  unfold listedB more
  by_cases hj : j = i
  · subst hj; simp [hi]
  · simp only [Array.getD_eq_getD_getElem?]
    rw [Array.getElem?_setIfInBounds_ne (Ne.symm hj)]
    simp [hj]
theorem mem_ready' {all : List Oper} {l : Array Bool} {i : Nat} (hl : l.size = all.length) : i ∈ Region.ready .any all.toArray l ↔ ∃ o, all[i]? = some o ∧ listedB l i = false ∧ ∀ e ∈ o.after, Region.binds .any e = true → listedB l e.on = true := by
  unfold Region.ready
  rw [List.mem_filter, List.mem_range]
  simp only [List.size_toArray, Bool.and_eq_true, Bool.not_eq_true']
  constructor
  · rintro ⟨h1, h2, h3⟩
    have hget : all.toArray[i]? = some all[i] := by simp [h1]
    rw [hget] at h3
    simp only [Option.map_some, Option.getD_some] at h3
    refine ⟨all[i], by simp [h1], ?_, fun e he hb => ?_⟩
    · unfold listedB
      rw [Array.getD_eq_getD_getElem?] at h2 ⊢
      have hlt : i < l.size := by omega
      rw [Array.getElem?_eq_getElem hlt] at h2 ⊢
      simpa using h2
    · have := Array.all_eq_true_iff_forall_mem.1 h3 e he
      simp only [hb, Bool.not_true, Bool.false_or] at this
      exact this
  · rintro ⟨o, ho, h2, h3⟩
    have h1 : i < all.length := (List.getElem?_eq_some_iff.1 ho).1
    refine ⟨h1, ?_, ?_⟩
    · unfold listedB at h2
      rw [Array.getD_eq_getD_getElem?] at h2 ⊢
      have hlt : i < l.size := by omega
      rw [Array.getElem?_eq_getElem hlt] at h2 ⊢
      simpa using h2
    · have hget : all.toArray[i]? = some o := by simpa using ho
      rw [hget]
      simp only [Option.map_some, Option.getD_some]
      rw [Array.all_eq_true_iff_forall_mem]
      intro e he
      cases hb : Region.binds .any e with
      | false => rfl
      | true => have h4 := h3 e he hb; unfold listedB at h4; rw [h4]; rfl
section
variable {all : List Oper} {σ : Nat → St} {v : Nat → V} {b : Nat → B} {c : Nat → Nat} {t0 : T V} {h0 : H} {s0 lim : Nat} {w0 : World}
variable (R : Rgn all P pr ih t0 h0 s0 lim σ v b c)
include R
theorem Rgn.all_listed {l : Array Bool} (hl : l.size = all.length) (hr : Region.ready .any all.toArray l = []) : ∀ n i, i < n → i < all.length → listedB l i = true
  | 0, i, h1, h2 => by omega
  | n + 1, i, h1, h2 => by
    cases hLi : listedB l i with
    | true => rfl
    | false =>
      obtain ⟨o, ho⟩ := R.at h2
      have : i ∈ Region.ready .any all.toArray l := (mem_ready' hl).2 ⟨o, ho, hLi, fun e he hb => by
        have := R.hd.edge i o ho e he hb
        exact Rgn.all_listed hl hr n e.on (by omega) (by omega)⟩
      rw [hr] at this; cases this
theorem Rgn.any (hih : SoundRn P ih) (hpr : SoundPr P pr) {Q : Exit → Act → World → Prop} (hQ : ∀ L ρ tX g sX a w, Inv D all t0 h0 s0 lim σ v b c e w0 L ρ tX g sX a w → (∀ i, i < all.length → L i = true) → Q .normal a w) :
    ∀ (f : Nat) (l : Array Bool) (a : Act) (w : World), l.size = all.length → (List.range all.length).countP (fun i => !listedB l i) ≤ f → Closed all (listedB l) → (∃ ρ tX g sX, Inv D all t0 h0 s0 lim σ v b c e w0 (listedB l) ρ tX g sX a w) → wpAny P .any all.toArray Q f l a w
  | 0, l, a, w, hl, hf, cl, hI => by
    have hall : ∀ i, i < all.length → listedB l i = true := fun i hi => by
      cases hLi : listedB l i with
      | true => rfl
      | false =>
        have : 0 < (List.range all.length).countP (fun i => !listedB l i) := List.countP_pos_iff.2 ⟨i, List.mem_range.2 hi, by simp [hLi]⟩
        omega
    obtain ⟨ρ, tX, g, sX, I⟩ := hI
    refine ⟨?_, hQ _ _ _ _ _ _ _ I hall⟩
    rw [List.eq_nil_iff_forall_not_mem]
    intro i hi
    obtain ⟨o, ho, h1, _⟩ := (mem_ready' hl).1 hi
    rw [hall i (R.lt ho)] at h1; cases h1
  | f + 1, l, a, w, hl, hf, cl, hI => by
    obtain ⟨ρ, tX, g, sX, I⟩ := hI
    refine ⟨fun hr => hQ _ _ _ _ _ _ _ I (fun i hi => R.all_listed hl hr (i + 1) i (by omega) hi), fun i hi => ?_⟩
    obtain ⟨o, ho, h1, h2⟩ := (mem_ready' hl).1 hi
    have hi' := R.lt ho
    refine I.step R hih hpr cl ho h2 h1 (fun ρ' tX' g' s' a' w' I' => ?_)
    refine Rgn.any hih hpr hQ f (l.setIfInBounds i true) a' w' (by simpa using hl) ?_ ?_ ?_
    · rw [listed_set (by omega)]
      have := count_lt (p := fun j => !listedB l j) (q := fun j => !more (listedB l) i j) (fun x hx => by
        unfold more at hx
        cases hlx : listedB l x with
        | true => rw [hlx] at hx; cases hx
        | false => rfl) (i := i) (by simp [h1]) (by simp [more_self]) (List.range all.length) (List.mem_range.2 hi')
      omega
    · rw [listed_set (by omega)]
      intro j oj hoj hlj e he hb
      by_cases hji : j = i
      · subst hji
        rw [ho] at hoj; injection hoj with hoj; subst hoj
        unfold more; rw [h2 e he hb]; rfl
      · rw [more_ne hji] at hlj
        unfold more; rw [cl j oj hoj hlj e he hb]; rfl
    · rw [listed_set (by omega)]; exact ⟨ρ', tX', g', s', I'⟩
end
/-- A region that draws its order. -/
theorem drawn_ok {id : Nat} {ops : Array Oper} (hm : P.follows .mixedOrders = true) (hih : SoundRn P ih) (hpr : SoundPr P pr) (hr : (drawn ops.toList P pr ih t h s).good) (ha : AR D e t a) (hs : Sim e h w) (hf : Free e s) :
    (Code.region id ops true).wp P (LR D (drawn ops.toList P pr ih t h s) e s h w) a w := by
  unfold drawn at hr ⊢
  obtain ⟨hd, hres⟩ := bif_ok rfl (by simp [RO.good]) hr
  rw [← hres]
  rw [← hres] at hr
  generalize hrr : dpass ops.toList (masks ops.toList []) (Nat.add s (makes ops.toList)) P pr ih ops.toList 0 t h (Nat.add s (makes ops.toList)) s [] [] [] = r at hr ⊢
  obtain ⟨σ, v, b, c, h1, tr, h3, h4⟩ := dpass_ok (all := ops.toList) (l := ops.toList) (pre := []) rfl hrr hr
  simp only [List.length_nil] at h1 tr
  have R : Rgn ops.toList P pr ih t h s (s + makes ops.toList) σ v b c := ⟨drawOk_ok hd, tr, h1, h4⟩
  subst h3
  refine wp_region_any hm ?_
  have hsz : ops.toList.length = ops.size := by simp
  have := R.any (e := e) (w0 := { w with drawn := w.drawn + 1 }) hih hpr (Q := LR D (.norm (σ ops.toList.length).t (addAll (σ ops.toList.length).al (σ ops.toList.length).g) (σ ops.toList.length).s) e s h w) (fun L ρ tX g sX a' w' I hall => by
    obtain ⟨k1, k2⟩ := I.done R hall
    exact ⟨rfl, ρ, k1, Post.drew (w₁ := { w with drawn := w.drawn + 1 }) rfl rfl rfl rfl k2⟩) ops.size (Array.replicate ops.size false) a { w with drawn := w.drawn + 1 } (by simp) (by
      have := List.countP_le_length (p := fun i => !listedB (Array.replicate ops.size false) i) (l := List.range ops.toList.length)
      simpa using this) (fun j o hj hl => by
        unfold listedB at hl
        rw [Array.getD_eq_getD_getElem?, Array.getElem?_replicate] at hl
        split at hl <;> cases hl) (by
        have hnone : ∀ j, listedB (Array.replicate ops.size false) j = false := fun j => by
          unfold listedB
          rw [Array.getD_eq_getD_getElem?, Array.getElem?_replicate]
          split <;> rfl
        refine ⟨e, t, h, s + makes ops.toList, ha, ⟨fun d => rfl, fun j o d _ hl => (by rw [hnone] at hl; cases hl), fun d _ => rfl⟩, PX.refl (hs.drew _ rfl), Nat.le_refl _, .inr ⟨fun i _ _ => hnone i, by rw [R.z], by rw [R.z]⟩, fun i _ _ hl => (by rw [hnone] at hl; cases hl), fun i _ _ hl => (by rw [hnone] at hl; cases hl), fun i i' _ _ _ _ hl => (by rw [hnone] at hl; cases hl), fun x hx => hf x (by omega), fun i hi hc _ => hf _ (R.qlim hc hi).1⟩)
  simpa using this
end Go.Ev
