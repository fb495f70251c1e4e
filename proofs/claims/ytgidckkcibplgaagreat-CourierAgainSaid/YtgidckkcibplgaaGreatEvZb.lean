/- An evaluator of the model's code: regions that draw their order, whole. -/
import Derived.Test.YtgidckkcibplgaaGreatEvY
import Derived.Orders
set_option linter.unusedVariables false
set_option linter.unusedSimpArgs false
set_option linter.unusedSectionVars false
namespace Go.Ev
variable {D : List Deferred}
variable {P : Program} {pr : Prims} {ih : Rn} {e : Env} {t0 : T V} {h : H} {w : World} {a : Act} {o : Oper}
variable {all : List Oper} {σ : Nat → St} {v : Nat → V} {b : Nat → B} {c : Nat → Nat} {h0 : H} {s0 lim : Nat} {w0 : World}
theorem wp_of_gives {R : Value → World → Prop} {next : Act → World → Prop} {Q : Exit → Act → World → Prop} (hg : Gives P (execOp a.eval o) w R) (hn : ∀ x w', R x w' → next (a.put o.dst x) w') : o.wp P a w next Q := by
  unfold Oper.wp
  unfold Gives at hg
  generalize (execOp a.eval o).run P w = res at *
  cases res with
  | halt x w' => cases x <;> exact hg.elim
  | ok n w' =>
    cases n with
    | value x => exact hn _ _ hg
    | skip => exact hn _ _ hg
    | enter f args => exact Calls.mono hg (fun en w'' ⟨x, he, hr⟩ => by subst he; exact hn _ _ hr)
    | _ => exact hg.elim
/-- Where one way is left, it is that. -/
theorem sub_norm {x : RO} {t : T V} {h : H} {s : Nat} (hx : Sub x (.norm t h s)) : x = .norm t h s := by cases hx; rfl
theorem opF_one {t t' : T V} {h h' : H} {s s' : Nat} (hk : opF o.op P pr ih t h s kid = .norm t' h' s') (hih : SoundRn P ih) (hpr : SoundPr P pr) (ha : AR D e t a) (hs : Sim e h w) (hf : Free e s) : Gives P (execOp a.eval o) w (Good e s h w (t'.get un 0) h' s') :=
  Gives.mono (opF_ok hk trivial hih hpr ha hs hf) (fun x w' hx => by
    obtain ⟨v, h'', s'', g1, g2⟩ := hx
    have := sub_norm g1
    unfold kid at this
    injection this with k1 k2 k3
    subst k1 k2 k3
    exact g2)
section
variable (R : Rgn all P pr ih t0 h0 s0 lim σ v b c) {L : Nat → Bool} {ρ : Env} {tX : T V} {g : H} {sX : Nat}
include R
theorem Rgn.s0le : s0 ≤ lim := by
  have h1 := R.qle 0 all.length (Nat.zero_le _) (Nat.le_refl _)
  rw [R.z] at h1
  exact Nat.le_trans h1 R.q
/-- An operation that acts. -/
theorem Inv.acts (hih : SoundRn P ih) (hpr : SoundPr P pr) (cl : Closed all L) (I : Inv D all t0 h0 s0 lim σ v b c e w0 L ρ tX g sX a w) {i : Nat} (ho : all[i]? = some o) (hr : ∀ e ∈ o.after, Region.binds .any e = true → L e.on = true) (hL : L i = false) (h4 : c i = 4) :
    Gives P (execOp a.eval o) w (fun x w' => ∃ ρ' g' s', Inv D all t0 h0 s0 lim σ v b c e w0 (more L i) ρ' (putT o.dst tX (v i)) g' s' (a.put o.dst x) w') := by
  have hi := R.lt ho
  obtain ⟨hg, hs, heff⟩ := R.stage_eff cl ho hr hL h4 I.st
  have st := R.tr.step i o (Nat.zero_le _) ho
  rw [h4] at st
  cases st with
  | @eff t' h' s' hw hc he hv hs' =>
    have hal : ∀ x ∈ pickM true (nthN (masks all []) i) (σ i).al, ∃ i0, i0 < i ∧ c i0 = 3 ∧ x = ⟨i0, (σ i0).q, b i0⟩ ∧ L i0 = true ∧ (nthN (masks all []) i).testBit i0 = true ∧ Own ρ w w0 g (σ i0).q (b i0) := fun x hx => by
      obtain ⟨k1, k2⟩ := mem_pick.1 hx
      obtain ⟨i0, m1, m2, m3, m4⟩ := (R.al i (by omega) x).1 k1
      have hb : (nthN (masks all []) i).testBit i0 = true := by rw [m3] at k2; exact k2
      have hl := (R.ready cl ho hr hb).1
      exact ⟨i0, m1, m2, m3, hl, hb, I.own i0 (by omega) m2 hl (fun i' n1 n2 n3 n4 => m4 i' n2 n4 ((heff i' n1 n2).1 n3))⟩
    obtain ⟨hj, hjd⟩ := join (w0 := w0) (by rw [I.px.le.base]; exact I.px.lim0) (l := pickM true (nthN (masks all []) i) (σ i).al) I.px.sim
      (fun x hx => by obtain ⟨i0, m1, m2, m3, m4, m5, m6⟩ := hal x hx; rw [m3]; exact m6)
      (fun x hx y hy hne z z' hz hz' => by
        obtain ⟨i0, m1, m2, m3, m4, m5, m6⟩ := hal x hx
        obtain ⟨i1, n1, n2, n3, n4, n5, n6⟩ := hal y hy
        rw [m3] at hz hne; rw [n3] at hz' hne
        exact I.sep i0 i1 (by omega) (by omega) m2 n2 m4 n4 (fun hh => hne (by rw [hh])) z z' hz hz')
    rw [opF_looks (R.agree cl ho hr hL I.tx), ← hg, ← hs] at he
    have k2 := opF_one (o := o) he hih hpr I.ar hj I.free
    obtain ⟨u, hu⟩ : ∃ u, u = t'.get un 0 := ⟨_, rfl⟩
    rw [← hu] at k2
    obtain ⟨h'', e2⟩ : ∃ x, x = h' := ⟨_, rfl⟩
    obtain ⟨s'', e3⟩ : ∃ x, x = s' := ⟨_, rfl⟩
    subst e2 e3
    have hvu : v i = u := by rw [hu]; exact hv
    refine k2.mono (fun x w' hx => ?_)
    obtain ⟨ρ', hx, p⟩ := hx
    have hin : ∀ j, j < all.length → c j = 3 → L j = true → (j < i → (nthN (masks all []) i).testBit j = false) → ∀ n sz, ρ (σ j).q = some ⟨n, 0, sz⟩ → (∀ y z, live g y → ρ y = some z → z.n ≠ n) → ∀ y z, live (addAll (pickM true (nthN (masks all []) i) (σ i).al) g) y → ρ y = some z → z.n ≠ n := by
      intro j hj hcj hlj hbj n sz hq hlive y z hl hz
      rcases live_add hl with ⟨k1, _⟩ | ⟨x, k1, k2, _⟩
      · exact hlive y z k1 hz
      · obtain ⟨i0, m1, m2, m3, m4, m5, m6⟩ := hal x k1
        have hne : i0 ≠ j := fun hh => by
          subst hh
          rw [hbj m1] at m5; cases m5
        rw [← k2, m3] at hz
        exact I.sep i0 j (by omega) hj m2 hcj m4 hlj hne z ⟨n, 0, sz⟩ hz hq
    have n3 : ∀ j, c j = 3 → more L i j = L j := fun j hj => more_ne (fun hh => by rw [hh, h4] at hj; cases hj)
    refine ⟨ρ', h'', s'', (I.ar.mono p.le).put (by rw [hvu]; exact hx), I.tx.put R.hd ho hL, I.px.trans (Nat.le_trans R.s0le I.ge) hjd p, Nat.le_trans I.ge p.up, .inl ⟨i, hi, h4, more_self L i, fun i' m1 m2 m3 => ?_, by rw [hs'], by rw [hs']⟩, fun j hj hcj hl hm => ?_, fun j hj hcj hl => ?_, fun j j' hj hj' hcj hcj' hl hl' hne z z' hz hz' => ?_, p.free, fun j hj hcj hl => ?_⟩
    · by_cases hii : i' = i
      · omega
      · rw [more_ne hii] at m3
        have := (heff i' m1 m2).1 m3; omega
    · rw [n3 j hcj] at hl
      have hbj : j < i → (nthN (masks all []) i).testBit j = false := fun hji => hm i hi h4 (more_self L i) hji
      obtain ⟨⟨n, sz, ob, g1, g2, g3, g4, g5⟩, g6⟩ := I.own j hj hcj hl (fun i' m1 m2 m3 m4 => hm i' m1 m2 (by unfold more; rw [m3]; rfl) m4)
      have hout := hin j hj hcj hl hbj n sz g1 g5
      have hnw : n < w.heap.size := (Array.getElem?_eq_some_iff.1 g2).1
      refine ⟨⟨n, sz, ob, p.le.of _ _ g1, ?_, g3.mono p.le, g4, fun y z hly hz => ?_⟩, g6⟩
      · rw [p.keep n hnw hout]; exact g2
      · rcases p.dom y z hly hz with ⟨b0, x0, m1, m2, m3⟩ | m1
        · rw [← m3]; exact hout b0 x0 m1 m2
        · omega
    · rw [n3 j hcj] at hl
      obtain ⟨z, g1, g2⟩ := I.low j hj hcj hl
      exact ⟨z, p.le.of _ _ g1, Nat.lt_of_lt_of_le g2 p.size⟩
    · rw [n3 j hcj] at hl; rw [n3 j' hcj'] at hl'
      obtain ⟨y, g1, _⟩ := I.low j hj hcj hl
      obtain ⟨y', g1', _⟩ := I.low j' hj' hcj' hl'
      have e1 := p.le.of _ _ g1; have e2 := p.le.of _ _ g1'
      rw [e1] at hz; injection hz with hz; subst hz
      rw [e2] at hz'; injection hz' with hz'; subst hz'
      exact I.sep j j' hj hj' hcj hcj' hl hl' hne _ _ g1 g1'
    · rw [n3 j hcj] at hl
      rw [p.low _ (by have := (R.qlim hcj hj).2; have := I.ge; omega)]
      exact I.fresh j hj hcj hl
/-- Whatever is ready comes up. -/
theorem Inv.step (hih : SoundRn P ih) (hpr : SoundPr P pr) (cl : Closed all L) (I : Inv D all t0 h0 s0 lim σ v b c e w0 L ρ tX g sX a w) {i : Nat} (ho : all[i]? = some o) (hr : ∀ e ∈ o.after, Region.binds .any e = true → L e.on = true) (hL : L i = false)
    {K : Act → World → Prop} {Q : Exit → Act → World → Prop} (hK : ∀ ρ' tX' g' s' a' w', Inv D all t0 h0 s0 lim σ v b c e w0 (more L i) ρ' tX' g' s' a' w' → K a' w') : wpOp P all.toArray Q i K a w := by
  have hag := R.agree cl ho hr hL I.tx
  have hwant : Region.wanted o (yielded all.toArray a.tmps) = want all (σ i).t o.guard := by
    rw [want_ok (all := all) I.ar.tr, want_congr hag]
  have st := R.tr.step i o (Nat.zero_le _) ho
  unfold wpOp
  rw [show all.toArray[i]? = some o by simpa using ho]
  simp only
  rw [hwant]
  by_cases h4 : c i = 4
  · rw [h4] at st
    cases st with
    | eff hw hc he hv hs' =>
      rw [hw]
      simp only [if_true]
      left
      exact wp_of_gives (I.acts R hih hpr cl ho hr hL h4) (fun x w' ⟨ρ', g', s', I'⟩ => hK _ _ _ _ _ _ I')
  · by_cases h3 : c i = 3
    · rw [h3] at st
      cases st with
      | @make t' h' s' hw hc he hv hb hs' =>
        rw [hw]
        simp only [if_true]
        left
        rw [opF_looks hag] at he
        obtain ⟨u, blk, k1, k2, k3, x, ob, sz, k4, k5⟩ := allocF_ok (o := o) (w := w) (a := a) (e := ρ) he trivial hc I.ar
        injection k1 with e1 e2 e3
        have hvi : v i = u := by rw [hv, e1]; rfl
        have hbi : b i = blk := by rw [hb, e2]; exact k2
        obtain ⟨ρ', I'⟩ := I.made R ho hL h3 (x := x) (ob := ob) (sz := sz) (by rw [hbi]; exact k3) (fun ρ' h1 h2 => by rw [hvi, hbi]; exact k5 ρ' h1 h2)
        exact wp_of_gives (R := fun x' w' => x' = x ∧ w' = w.alloc ob) (gives_value k4 ⟨rfl, rfl⟩) (fun x' w' hx => by obtain ⟨rfl, rfl⟩ := hx; exact hK _ _ _ _ _ _ I')
    · have fin : ∀ x, VR ρ (v i) x → K (a.put o.dst x) w := fun x hx => hK _ _ _ _ _ _ (I.idle R ho hL h3 h4 hx)
      generalize hci : c i = k at st h3 h4
      cases st with
      | skip hw hv hs' =>
        rw [hw]
        simp only [Bool.false_eq_true, if_false]
        exact fin undef (by rw [hv]; exact undef_VR)
      | @pure t' h' s' hw hc he hv hs' =>
        rw [hw]
        simp only [if_true]
        left
        rw [opF_looks hag] at he
        have he' : opF o.op P pr ih tX g 0 kid0 = .norm t' h' s' := by rw [opF_indep hc]; exact he
        obtain ⟨u, x, k1, k2, k3⟩ := pureF_ok (o := o) he' trivial (.inl hc) I.ar I.px.sim
        have := kid0_val k1
        exact wp_of_gives (R := fun x' w' => x' = x ∧ w' = w) (gives_value k3 ⟨rfl, rfl⟩) (fun x' w' hx => by obtain ⟨rfl, rfl⟩ := hx; exact fin _ (by rw [hv, this]; exact k2))
      | read hw hc he hv hs' =>
        rw [hw]
        simp only [if_true]
        left
        obtain ⟨t', h', s', m1, m2⟩ := R.stage_read cl ho hr hL hci I.st
        rw [opF_looks hag] at m1
        obtain ⟨u, x, k1, k2, k3⟩ := pureF_ok (o := o) m1 trivial (.inr hc) I.ar I.px.sim
        have := kid0_val k1
        exact wp_of_gives (R := fun x' w' => x' = x ∧ w' = w) (gives_value k3 ⟨rfl, rfl⟩) (fun x' w' hx => by obtain ⟨rfl, rfl⟩ := hx; exact fin _ (by rw [← m2, this]; exact k2))
      | make => exact absurd rfl h3
      | eff => exact absurd rfl h4
/-- Everything has come up. -/
theorem Inv.done (I : Inv D all t0 h0 s0 lim σ v b c e w0 L ρ tX g sX a w) (hL : ∀ i, i < all.length → L i = true) :
    AR D ρ (σ all.length).t a ∧ Post e s0 h0 w0 ρ (σ all.length).s (addAll (σ all.length).al (σ all.length).g) w := by
  have hstage : g = (σ all.length).g ∧ sX = (σ all.length).s := by
    rcases I.st with ⟨i0, k1, k2, k3, k4, k5, k6⟩ | ⟨k1, k2, k3⟩
    · have := R.same (i0 + 1) all.length k1 (Nat.le_refl _) (fun m m1 m2 m3 => by have := k4 m m2 m3 (hL m m2); omega)
      exact ⟨by rw [k5, this.1], by rw [k6, this.2]⟩
    · have := R.same 0 all.length (Nat.zero_le _) (Nat.le_refl _) (fun m m1 m2 m3 => by have := k1 m m2 m3; rw [hL m m2] at this; cases this)
      exact ⟨by rw [k2, this.1], by rw [k3, this.2]⟩
  obtain ⟨hg, hs⟩ := hstage
  have hown : ∀ x ∈ (σ all.length).al, ∃ i0, i0 < all.length ∧ c i0 = 3 ∧ x = ⟨i0, (σ i0).q, b i0⟩ ∧ Own ρ w w0 g (σ i0).q (b i0) := fun x hx => by
    obtain ⟨i0, m1, m2, m3, m4⟩ := (R.al all.length (Nat.le_refl _) x).1 hx
    exact ⟨i0, m1, m2, m3, I.own i0 m1 m2 (hL i0 m1) (fun i' n1 n2 n3 n4 => m4 i' n2 n4 n1)⟩
  obtain ⟨hj, hjd⟩ := join (w0 := w0) (by rw [I.px.le.base]; exact I.px.lim0) (l := (σ all.length).al) I.px.sim
    (fun x hx => by obtain ⟨i0, m1, m2, m3, m4⟩ := hown x hx; rw [m3]; exact m4)
    (fun x hx y hy hne z z' hz hz' => by
      obtain ⟨i0, m1, m2, m3, m4⟩ := hown x hx
      obtain ⟨i1, n1, n2, n3, n4⟩ := hown y hy
      rw [m3] at hz hne; rw [n3] at hz' hne
      exact I.sep i0 i1 m1 n1 m2 n2 (hL i0 m1) (hL i1 n1) (fun hh => hne (by rw [hh])) z z' hz hz')
  refine ⟨⟨⟨fun d => ?_, fun d => ?_⟩, I.ar.nodef⟩, I.px.le, I.px.low, ?_, ?_, ?_, fun y z hl hz => ?_, I.px.keep, I.px.size, I.px.os, I.px.tape, I.px.output⟩
  · rw [(R.tx all.length (Nat.le_refl _)).has, ← I.tx.has]; exact I.ar.tr.has d
  · have : (σ all.length).t.get un d = tX.get un d := (R.tx all.length (Nat.le_refl _)).agree R.hd I.tx (fun j o' ho' _ => by
      rw [hL j (R.lt ho')]; simpa using R.lt ho')
    rw [this]; exact I.ar.tr.val d
  · rw [← hs]; exact Nat.le_trans R.s0le I.ge
  · rw [← hs]; exact I.free
  · rw [← hg]; exact hj
  · rw [← hg] at hl
    rcases hjd y z hl hz with h1 | h1
    · exact I.px.dom y z h1 hz
    · exact .inr h1
end
end Go.Ev
