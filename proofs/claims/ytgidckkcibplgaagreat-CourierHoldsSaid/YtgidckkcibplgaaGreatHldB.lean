/- The courier that is held: what the checks of its general states mean. -/
import Derived.Test.YtgidckkcibplgaaGreatHldD
set_option linter.unusedVariables false
set_option linter.unusedSimpArgs false
namespace Go.Proofs.YtgidckkcibplgaaGreat
open Go.Ev Go.RowKit
variable {e : Env} {t : T V} {h : H} {s : Nat} {w w0 : World} {a : Act}
theorem hldIh_ok : SoundRn Tryz.prog hldIh := runF_sound mixedCou hldPr_ok 100000
theorem hldN_eq : hldN = 136 := by kernel_rfl
theorem hldShape : dropC 3 (dropC 11 hldC) = dropC 14 hldC := by kernel_rfl
theorem hldShape2 : dropC 14 hldC = .seq (.seq (hldStart (dropC 14 hldC)) (.block 2 (.loop (hldBody (dropC 14 hldC))))) (hldAfter (dropC 14 hldC)) := by kernel_rfl
theorem hldFn : fnOf Tryz.prog 4 = .fn hldC hldN hldR := by kernel_rfl
attribute [local irreducible] hldC hldBody hldStart hldAfter hldG hldIh hldM hldW hldPre hldN
theorem InE.set {v : V} {p : Nat} (hI : InE w0 e t h s a w) (hp : t.has p = true) (hv : VR e v (a.tmps.getD p undef)) : InE w0 e (t.set p v) h s a w := by
  refine ⟨hI.sim, ⟨?_, hI.ar.nodef⟩, hI.free, hI.prot, hI.below⟩
  have hlt := (hI.ar.tr.has p).1 hp
  have := hI.ar.tr.put (d := p) hv
  have hset : a.tmps.setIfInBounds p (a.tmps.getD p undef) = a.tmps := by
    apply Array.ext (by simp)
    intro i h1 h2
    by_cases hi : i = p
    · subst hi; simp [Array.getD, hlt]
    · rw [Array.getElem_setIfInBounds h2]; simp [Ne.symm hi]
  rwa [hset] at this
theorem sigOk_cons (p : Nat × Int × List Nat) (σ : Sig) : sigOk (p :: σ) = bif Nat.ble 1000000 p.1 && (smallL p.2.2 && (ile 0 p.2.1 && ile (Int.add p.2.1 (.ofNat (bndL p.2.2))) (.ofNat (Nat.mod p.1 1000)))) then sigOk σ else false := rfl
theorem leaves_sub {r x : RO} (hs : Sub x r) {t : T V} {h : H} {s : Nat} (hx : x = .norm t h s) : (⟨t, h, s, hldN⟩ : Sta) ∈ leaves r := by
  induction hs with
  | refl => subst hx; exact List.mem_singleton.2 rfl
  | @left a b _ ih => show _ ∈ leaves b ++ leaves a; exact List.mem_append.2 (.inr ih)
  | @right a b _ ih => show _ ∈ leaves b ++ leaves a; exact List.mem_append.2 (.inl ih)
theorem leaves_all {f : T V → H → Nat → Bool} : ∀ {r : RO}, allN f r = true → ∀ X, X ∈ leaves r → f X.t X.h X.s = true
  | .norm t h s, hk, X, hX => by
    have : X = ⟨t, h, s, hldN⟩ := List.mem_singleton.1 hX
    subst this; exact hk
  | .exit .., hk, _, _ => by cases hk
  | .ret .., hk, _, _ => by cases hk
  | .err _, hk, _, _ => by cases hk
  | .or a b, hk, X, hX => by
    change (bif allN f a then allN f b else false) = true at hk
    have hX : X ∈ leaves b ++ leaves a := hX
    cases ha : allN f a with
    | false => rw [ha] at hk; cases hk
    | true =>
      rw [ha] at hk
      rcases List.mem_append.1 hX with h | h
      · exact leaves_all (r := b) hk X h
      · exact leaves_all (r := a) ha X h
theorem leaves_n : ∀ {r : RO} (X : Sta), X ∈ leaves r → X.n = hldN
  | .norm t h s, X, hX => by
    have : X = ⟨t, h, s, hldN⟩ := List.mem_singleton.1 hX
    subst this; rfl
  | .exit .., _, hX => by cases hX
  | .ret .., _, hX => by cases hX
  | .err _, _, hX => by cases hX
  | .or a b, X, hX => by
    have hX : X ∈ leaves b ++ leaves a := hX
    rcases List.mem_append.1 hX with h | h
    · exact leaves_n (r := b) X h
    · exact leaves_n (r := a) X h
theorem hldN_big : 2 < hldN := by rw [hldN_eq]; decide
theorem hldU_slot {S : Sta} (hn : S.n = hldN) (h1 : isW (S.t.get un 2) = true) (h2 : S.t.has 2 = true) : isW ((Gst.sta (hldU S)).t.get un 2) = true ∧ (Gst.sta (hldU S)).t.has 2 = true := by
  have hlen : (hldU S).tl.length = S.n := by
    show (rdCells _ S.n 0).length = S.n
    exact rdCells_len _ _ _
  have hlt : 2 < (hldU S).tl.length := by rw [hlen, hn]; exact hldN_big
  refine ⟨?_, (tree_has _ _).2 hlt⟩
  have hg : (Gst.sta (hldU S)).t.get un 2 = S.t.get un 2 := by
    show (tree (hldU S).tl).get un 2 = _
    rw [tree_get _ _ hlt, List.getD_eq_getElem?_getD]
    have : (hldU S).tl[2]? = some (((((S.t.set 14 .opq).set 48 .opq).set 53 .opq).set 54 .opq).get un (0 + 2)) := rdCells_get _ S.n 0 2 (by rw [hn]; exact hldN_big)
    rw [this]
    have key : ∀ (t : T V) (p : Nat), p ≠ 2 → (t.set p .opq).get un 2 = t.get un 2 := fun t p hp => by
      cases hh : t.has p with
      | true => rw [T.get_set un t p 2 .opq hh, if_neg (Ne.symm hp)]
      | false => rw [T.set_off t p .opq hh]
    show ((((S.t.set 14 .opq).set 48 .opq).set 53 .opq).set 54 .opq).get un 2 = _
    rw [key _ 54 (by decide), key _ 53 (by decide), key _ 48 (by decide), key _ 14 (by decide)]
  rw [hg]; exact h1
section
variable {Q : Exit → Act → World → Prop}
/-- What the loop's ways out lead to. -/
def LQ (Q : Exit → Act → World → Prop) : Exit → Act → World → Prop := Exit.inBlock 2 (Exit.then ((hldAfter (dropC 14 hldC)).wp Tryz.prog Q) Q)
/-- From here the loop ends, and all is well. -/
def LpOk (Q : Exit → Act → World → Prop) (w0 : World) (G : Gst) : Prop := ∃ m, ∀ a w, InS w0 G.t G.h G.s a w → Code.rounds Tryz.prog (hldBody (dropC 14 hldC)) (LQ Q) m a w
theorem hldTo_ok {σ : Sig} {n : Nat} {M G : Gst} (hk : hldTo σ n M G = true) (hσ : sigOk σ = true) (hG : LpOk Q w0 G) : LpOk Q w0 M := by
  obtain ⟨m, hG⟩ := hG
  refine ⟨n + m, fun a w hI => ?_⟩
  unfold hldTo at hk
  refine InS.rounds hldIh_ok n (allN_good hk) hI (fun t h s a w q1 q2 => ?_) (fun t h s a w q1 q2 => ?_) (fun i t h s a w q1 q2 => ?_)
  · exact hG a w (q2.gen (allN_sub q1 hk) hσ)
  · have := allN_sub q1 hk; cases this
  · have := allN_sub q1 hk; cases this
theorem rest_norm {r : RO} {t : T V} {h : H} {s : Nat} {f : T V → H → Nat → RO} {n : Nat} (q : Sub (.norm t h s) r) (hf : okB (r.bnd f (fun _ _ _ _ => .err n) f) = true) : okB (f t h s) = true :=
  okB_sub (q.bnd f (fun _ _ _ _ => .err n) f) hf
theorem rest_ret {r : RO} {t : T V} {h : H} {s : Nat} {f : T V → H → Nat → RO} {n : Nat} (q : Sub (.ret t h s) r) (hf : okB (r.bnd f (fun _ _ _ _ => .err n) f) = true) : okB (f t h s) = true :=
  okB_sub (q.bnd f (fun _ _ _ _ => .err n) f) hf
theorem rest_exit {r : RO} {i : Nat} {t : T V} {h : H} {s : Nat} {f : T V → H → Nat → RO} {n : Nat} (q : Sub (.exit i t h s) r) (hf : okB (r.bnd f (fun _ _ _ _ => .err n) f) = true) : False := by
  have := okB_sub (q.bnd f (fun _ _ _ _ => .err n) f) hf
  cases this
theorem hldEnd_ok {z : Bool} {L : Nat} (hk : hldEnd z L = true) (hQ : ∀ t h s a w, okB (fin Tryz.prog hldR t h s kid) = true → InS w0 t h s a w → ∀ x, x = Exit.normal ∨ x = Exit.ret → Q x a w) : LpOk Q w0 (hldG z L 4000200) := by
  unfold hldEnd at hk
  simp only [Bool.and_eq_true] at hk
  obtain ⟨⟨k1, k2, k3⟩, k4, k5, k6⟩ := hk
  refine ⟨202, fun a w ⟨e, hI⟩ => ?_⟩
  refine self_loop hldIh_ok (by decide) (by decide) (N := 200) (by decide) (by decide) k1 k2 k3 k4 rfl k5 k6 ?_ 201 a w e ?_ hI
  · intro t' h' s' a' w' hf hI'
    unfold LQ Exit.inBlock
    dsimp only
    rw [if_pos rfl]
    show (hldAfter (dropC 14 hldC)).wp Tryz.prog Q a' w'
    unfold hldRest at hf
    have hgood := okB_good hf
    refine InS.run hldIh_ok (RO.good_bnd hgood) hI' (fun t2 h2 s2 a2 w2 q1 q2 => ?_) (fun t2 h2 s2 a2 w2 q1 q2 => ?_) (fun i t2 h2 s2 a2 w2 q1 q2 => ?_)
    · have h1 := rest_norm (f := fun t h s => fin Tryz.prog hldR t h s kid) q1 hf
      exact hQ t2 h2 s2 a2 w2 h1 q2 _ (.inl rfl)
    · have h1 := rest_ret (f := fun t h s => fin Tryz.prog hldR t h s kid) q1 hf
      exact hQ t2 h2 s2 a2 w2 h1 q2 _ (.inr rfl)
    · exact (rest_exit q1 hf).elim
  · have := (e.base.sm 4000200 (by decide)).1
    omega
/-- What follows the hold: three pieces, then the loop, whose first round is run. -/
theorem mid_ok {v : V} {S : Sta} {f : T V → H → Nat → Bool} (hk : allN f (hldMid v S) = true) (hI : InS w0 (S.t.set 2 v) S.h S.s a w) {m : Nat}
    (hN : ∀ t h s a w, f t h s = true → InS w0 t h s a w → Code.rounds Tryz.prog (hldBody (dropC 14 hldC)) (LQ Q) m a w) : (dropC 11 hldC).wp Tryz.prog Q a w := by
  have hg := allN_good hk
  unfold hldMid at hg
  refine InS.cut hldIh_ok (n := 3) (RO.good_bnd (RO.good_bnd hg)) hI (fun t1 h1 s1 a1 w1 q1 I1 => ?_) (fun t1 h1 s1 a1 w1 q1 I1 => ?_) (fun i t1 h1 s1 a1 w1 q1 I1 => ?_)
  · have s1' := (q1.bnd (fun t h s => hldIh (hldStart (dropC 14 hldC)) t h s) .exit .ret)
    have hgood1 := s1'.good (RO.good_bnd hg)
    rw [hldShape, hldShape2]
    refine wp_seq (wp_seq ?_)
    refine InS.run hldIh_ok hgood1 I1 (fun t2 h2 s2 a2 w2 q2 I2 => ?_) (fun t2 h2 s2 a2 w2 q2 I2 => ?_) (fun i t2 h2 s2 a2 w2 q2 I2 => ?_)
    · have s2' := ((q2.trans s1').bnd (fun t h s => hldIh (hldBody (dropC 14 hldC)) t h s) .exit .ret)
      have hgood2 := s2'.good hg
      refine wp_block (wp_loop_rounds (m + 1) ?_)
      rw [rounds_succ]
      show (hldBody (dropC 14 hldC)).wp Tryz.prog (Exit.then (Code.rounds Tryz.prog (hldBody (dropC 14 hldC)) (LQ Q) m) (LQ Q)) a2 w2
      refine InS.run hldIh_ok hgood2 I2 (fun t3 h3 s3 a3 w3 q3 I3 => ?_) (fun t3 h3 s3 a3 w3 q3 I3 => ?_) (fun i t3 h3 s3 a3 w3 q3 I3 => ?_)
      · exact hN t3 h3 s3 a3 w3 (allN_sub (q3.trans s2') hk) I3
      · have := allN_sub (q3.trans s2') hk; cases this
      · have := allN_sub (q3.trans s2') hk; cases this
    · have := allN_sub ((q2.trans s1').bnd (fun t h s => hldIh (hldBody (dropC 14 hldC)) t h s) .exit .ret) hk; cases this
    · have := allN_sub ((q2.trans s1').bnd (fun t h s => hldIh (hldBody (dropC 14 hldC)) t h s) .exit .ret) hk; cases this
  · have := allN_sub ((q1.bnd (fun t h s => hldIh (hldStart (dropC 14 hldC)) t h s) .exit .ret).bnd (fun t h s => hldIh (hldBody (dropC 14 hldC)) t h s) .exit .ret) hk; cases this
  · have := allN_sub ((q1.bnd (fun t h s => hldIh (hldStart (dropC 14 hldC)) t h s) .exit .ret).bnd (fun t h s => hldIh (hldBody (dropC 14 hldC)) t h s) .exit .ret) hk; cases this
/-- The wait: none, or as is told less one. -/
def Wt (e : Env) : Prop := e.base.ρ 1000255 = 0 ∨ e.base.ρ 1000255 = 1 + e.base.ρ 2000254
/-- A state behind the passes ahead of the hold. -/
def InK (w0 : World) (S : Sta) (a : Act) (w : World) : Prop := ∃ e, InE w0 e S.t S.h S.s a w ∧ Wt e
theorem isW_eq {v : V} (h : isW v = true) : v = .sx .u8 (.lin 0 [1000255]) := by
  unfold isW at h
  split at h
  · rw [sxeq_eq h]
  · cases h
/-- A state behind the passes ahead of the hold; the wait may be told in two ways. -/
def InW (w0 : World) (S : Sta) (a : Act) (w : World) : Prop := (InS w0 (S.t.set 2 hldV1) S.h S.s a w) ∨ (InS w0 (S.t.set 2 hldV0) S.h S.s a w)
theorem InK.inW {S : Sta} (hs : isW (S.t.get un 2) = true) (hh : S.t.has 2 = true) (hI : InK w0 S a w) : InW w0 S a w := by
  obtain ⟨e, hI, hW⟩ := hI
  have hv := hI.ar.tr.val 2
  rw [isW_eq hs] at hv
  rcases hW with hW | hW
  · refine .inr ⟨e, InE.set hI hh ?_⟩
    generalize a.tmps.getD 2 undef = x at hv
    cases hv with
    | sx g _ =>
      rw [g]
      show VR e (.int .u8 0) (.int .u8 (0 + (e.base.ρ 1000255 + 0)))
      rw [hW]; exact .int _ _
  · refine .inl ⟨e, InE.set hI hh ?_⟩
    generalize a.tmps.getD 2 undef = x at hv
    cases hv with
    | sx g gw =>
      refine .sx ?_ gw
      rw [g]
      show 0 + (e.base.ρ 1000255 + 0) = 1 + (e.base.ρ 2000254 + 0)
      omega
theorem InK.gen {S : Sta} {G : Gst} {n : Nat} (hk : chkG [] G ⟨S.t, S.h, S.s, n⟩ = true) (hI : InK w0 S a w) : InK w0 (Gst.sta G) a w := by
  obtain ⟨e, hI, hW⟩ := hI
  obtain ⟨e', h1, h2⟩ := hI.gen hk (sigOk_at rfl)
  refine ⟨e', h1, ?_⟩
  have r1 : e'.base.ρ 1000255 = e.base.ρ 1000255 := by
    rw [h2 _ (by decide)]; show (0 : Int) + (e.base.ρ 1000255 + 0) = _; omega
  have r2 : e'.base.ρ 2000254 = e.base.ρ 2000254 := by
    rw [h2 _ (by decide)]; show (0 : Int) + (e.base.ρ 2000254 + 0) = _; omega
  unfold Wt
  rw [r1, r2]; exact hW
theorem hldBelow_ok {σ : Sig} {M : Gst} {S : Sta} (hk : hldBelow σ M S = true) (hσ : sigOk σ = true) (hM : LpOk Q w0 M) (hI : InW w0 S a w) : (dropC 11 hldC).wp Tryz.prog Q a w := by
  unfold hldBelow at hk
  simp only [Bool.and_eq_true] at hk
  obtain ⟨m, hM⟩ := hM
  have o1 : sigOk ((1000255, 1, [2000254]) :: σ) = true := by
    rw [sigOk_cons, hσ]; rfl
  have o0 : sigOk ((1000255, 0, []) :: σ) = true := by
    rw [sigOk_cons, hσ]; rfl
  rcases hI with hI | hI
  · exact mid_ok hk.1 hI (fun t h s a w hf hI' => hM a w (hI'.gen hf o1))
  · exact mid_ok hk.2 hI (fun t h s a w hf hI' => hM a w (hI'.gen hf o0))
theorem hldFull_ok {L n : Nat} {S : Sta} (hk : hldFull L n S = true) (hn : n < 200) (hE : ∀ z, LpOk Q w0 (hldG z L 4000200)) (hI : InW w0 S a w) : (dropC 11 hldC).wp Tryz.prog Q a w := by
  unfold hldFull at hk
  simp only [Bool.and_eq_true] at hk
  have hσ : sigOk [(4000200, ((Nat.succ n : Nat) : Int), [])] = true := by
    rw [sigOk_cons]
    dsimp only
    have h1 : ile 0 ((Nat.succ n : Nat) : Int) = true := by rw [ile_eq]; simp; omega
    have h2 : ile (Int.add ((Nat.succ n : Nat) : Int) (.ofNat (bndL []))) (.ofNat (Nat.mod 4000200 1000)) = true := by
      rw [ile_eq]
      show decide (((n + 1 : Nat) : Int) + 0 ≤ 200) = true
      simp; omega
    rw [h1, h2]; rfl
  exact hldBelow_ok hk.1 rfl (hldTo_ok hk.2 hσ (hE _)) hI
theorem hldJ_ok (k : Nat) (hk : k < 10) : sigOk [(hldJ k, 1, [])] = true ∧ sigOk [(hldJ (Nat.succ k), 1, [hldJ k])] = true ∧ sigOk [((4000200 : Nat), (3 : Int), [hldJ k])] = true := by
  match k, hk with
  | 0, _ => exact ⟨rfl, rfl, rfl⟩
  | 1, _ => exact ⟨rfl, rfl, rfl⟩
  | 2, _ => exact ⟨rfl, rfl, rfl⟩
  | 3, _ => exact ⟨rfl, rfl, rfl⟩
  | 4, _ => exact ⟨rfl, rfl, rfl⟩
  | 5, _ => exact ⟨rfl, rfl, rfl⟩
  | 6, _ => exact ⟨rfl, rfl, rfl⟩
  | 7, _ => exact ⟨rfl, rfl, rfl⟩
  | 8, _ => exact ⟨rfl, rfl, rfl⟩
  | 9, _ => exact ⟨rfl, rfl, rfl⟩
theorem hldGo_ok {L : Nat} (hE : ∀ z, LpOk Q w0 (hldG z L 4000200)) : ∀ (n k : Nat) (l : List Sta), hldGo L k n l = true → k + n < 9 →
    (∀ S, l.head? = some S → LpOk Q w0 (hldM L k S)) ∧ ∀ S, S ∈ l.take (n + 1) → ∀ a w, InW w0 S a w → (dropC 11 hldC).wp Tryz.prog Q a w
  | 0, _, [], hk, _ => by simp [hldGo] at hk
  | _ + 1, _, [], hk, _ => by simp [hldGo] at hk
  | 0, k, S :: l, hk, hkn => by
    have hk : (hldBelow [(hldJ k, 1, [])] (hldM L k S) S && hldTo [(4000200, 3, [hldJ k])] 3 (hldM L k S) (hldG false L 4000200)) = true := hk
    simp only [Bool.and_eq_true] at hk
    obtain ⟨j1, j2, j3⟩ := hldJ_ok k (by omega)
    have hM := hldTo_ok hk.2 j3 (hE false)
    refine ⟨fun X hX => ?_, fun X hX a w hI => ?_⟩
    · injection hX with hX; subst hX; exact hM
    · have : X = S := by simpa using hX
      subst this
      exact hldBelow_ok hk.1 j1 hM hI
  | n + 1, k, [S], hk, hkn => by simp [hldGo, headB] at hk
  | n + 1, k, S :: S' :: l, hk, hkn => by
    have hk : (hldBelow [(hldJ k, 1, [])] (hldM L k S) S && (hldTo [(hldJ (Nat.succ k), 1, [hldJ k])] 1 (hldM L k S) (hldM L (Nat.succ k) S') && hldGo L (Nat.succ k) n (S' :: l))) = true := hk
    simp only [Bool.and_eq_true] at hk
    obtain ⟨j1, j2, j3⟩ := hldJ_ok k (by omega)
    obtain ⟨g1, g2⟩ := hldGo_ok hE n (k + 1) (S' :: l) hk.2.2 (by omega)
    have hM : LpOk Q w0 (hldM L k S) := hldTo_ok hk.2.1 j2 (g1 S' rfl)
    refine ⟨fun X hX => ?_, fun X hX a w hI => ?_⟩
    · injection hX with hX; subst hX; exact hM
    · rw [List.take_succ_cons] at hX
      rcases List.mem_cons.1 hX with rfl | hX
      · exact hldBelow_ok hk.1 j1 hM hI
      · exact g2 X hX a w hI
/-- From every state behind the passes all is well. -/
theorem hldAll_ok {L : Nat} (hL : L ≤ 41) (hk : hldAll L = true) (hE : ∀ z, LpOk Q w0 (hldG z L 4000200)) {t : T V} {h : H} {s : Nat} (hS : Sub (.norm t h s) (hldPre L)) (hI : InK w0 ⟨t, h, s, hldN⟩ a w) : (dropC 11 hldC).wp Tryz.prog Q a w := by
  unfold hldAll at hk
  simp only [Bool.and_eq_true] at hk
  obtain ⟨k0, k1, k2, k3, k4⟩ := hk
  have hw := allN_sub hS k0
  change (isW (t.get un 2) && t.has 2) = true at hw
  simp only [Bool.and_eq_true] at hw
  have hmem := leaves_sub hS rfl
  have hall : ∀ X, X ∈ leaves (hldPre L) → isW (X.t.get un 2) = true ∧ X.t.has 2 = true := fun X hX => by
    have h := leaves_all k0 X hX
    simp only [Bool.and_eq_true] at h
    exact h
  have hU : 2 ≤ hldUn L ∧ hldUn L ≤ 8 := by
    unfold hldUn
    have h2 : Nat.add 2 (Nat.div (Nat.add (bif Nat.beq L 41 then 0 else L) 7) 8) = 2 + ((bif Nat.beq L 41 then 0 else L) + 7) / 8 := rfl
    rw [h2]
    cases Nat.beq L 41 with
    | true => simp
    | false => simp only [cond_false]; omega
  generalize hl : leaves (hldPre L) = l at *
  generalize hldUn L = U at *
  generalize hS0 : (⟨t, h, s, hldN⟩ : Sta) = S at *
  have hcov : S ∈ l.take 1 ∨ S ∈ (l.drop 1).take (U - 1) ∨ S ∈ (l.drop U).take 1 ∨ S ∈ l.drop (U + 1) := by
    rw [← List.take_append_drop 1 l] at hmem
    rcases List.mem_append.1 hmem with h | h
    · exact .inl h
    rw [← List.take_append_drop (U - 1) (l.drop 1)] at h
    rcases List.mem_append.1 h with h | h
    · exact .inr (.inl h)
    rw [List.drop_drop, show 1 + (U - 1) = U by omega] at h
    rw [← List.take_append_drop 1 (l.drop U)] at h
    rcases List.mem_append.1 h with h | h
    · exact .inr (.inr (.inl h))
    rw [List.drop_drop] at h
    exact .inr (.inr (.inr h))
  have hhead : ∀ {f : Sta → Bool} {m : List Sta}, headB f m = true → ∀ X, X ∈ m.take 1 → f X = true := fun {f m} h X hX => by
    cases m with
    | nil => cases h
    | cons Y m =>
      have : X = Y := by simpa using hX
      subst this
      exact h
  have hIW : InW w0 S a w := by
    have := hall S hmem
    exact hI.inW this.1 this.2
  rcases hcov with h | h | h | h
  · exact hldFull_ok (hhead k1 S h) (show Nat.add 3 U < 200 from Nat.lt_of_le_of_lt (Nat.add_le_add_left hU.2 3) (by decide)) hE hIW
  · have e1 : Nat.sub U 2 + 1 = U - 1 := by
      have : Nat.sub U 2 = U - 2 := rfl
      omega
    refine (hldGo_ok hE (Nat.sub U 2) 1 (l.drop 1) k2 ?_).2 S (by rw [e1]; exact h) a w hIW
    have : Nat.sub U 2 = U - 2 := rfl
    omega
  · exact hldFull_ok (hhead k3 S h) (by decide) hE hIW
  · have k4 : hldQs L (l.drop (U + 1)) = true := k4
    cases hd : l.drop (U + 1) with
    | nil => rw [hd] at h; cases h
    | cons S0 m =>
      rw [hd] at k4 h
      have k4 : (hldFull L 3 (Gst.sta (hldU S0)) && (S0 :: m).all (fun X => chkG [] (hldU S0) X)) = true := k4
      simp only [Bool.and_eq_true] at k4
      have hc := List.all_eq_true.1 k4.2 S h
      have hS0m : S0 ∈ l := List.mem_of_mem_drop (hd ▸ List.mem_cons_self)
      have hw0 := hall S0 hS0m
      have hn0 : S0.n = hldN := by
        rw [← hl] at hS0m
        exact leaves_n S0 hS0m
      have hI2 : InK w0 (Gst.sta (hldU S0)) a w := by
        subst hS0
        exact InK.gen hc hI
      obtain ⟨u1, u2⟩ := hldU_slot hn0 hw0.1 hw0.2
      exact hldFull_ok k4.1 (by decide) hE (hI2.inW u1 u2)
end
end Go.Proofs.YtgidckkcibplgaaGreat
