/- The law PatchConverts: its walk. -/
import Derived.Test.YtdboplkgnnidcaaPatAlive
import Derived.Test.YtdboplkgnnidcaaOrdR
set_option linter.unusedVariables false
namespace Go.Proofs.Ytdboplkgnnidcaa
open Go.RowKit Go.Proofs.Num
def wErr (l : List Nat) : Nat := if l.length % 4 = 0 then 0 else 4
def wRes (l : List Nat) : List Nat := if l.length % 4 = 0 then Pat.wordsOf l else []
theorem wRes_len (l : List Nat) : (wRes l).length ≤ l.length := by unfold wRes; split; (rw [Pat.wordsOf_len]; omega); simp
theorem nil_rdW (w : World) : RdW w (.slice none 0 0) [] := ⟨Rd.nil _ _ _ (by unfold maxLen; omega), by simp⟩
theorem cWordsAny (w : World) (v : Value) (l : List Nat) (h : RdB w v l) (hn : l.length < 1000000000) :
    Calls Try.prog 12 #[v] w fun e w' => ∃ r, e = .returned (.tuple #[r, .int .i64 (wErr l : Nat)]) ∧ RdW w' r (wRes l) ∧ Below w.heap.size w w' := by
  unfold wErr wRes
  by_cases h4 : l.length % 4 = 0
  · rw [if_pos h4, if_pos h4]
    refine (cWords w v l h hn (l.length / 4) (by omega)).mono ?_
    rintro e w' ⟨r, he, hN⟩
    exact ⟨r, he, hN.rdW (Pat.wordsOf_lt l h.2), hN.below⟩
  · rw [if_neg h4, if_neg h4]
    refine (cWordsBad w v l h hn h4).mono ?_
    rintro e w' ⟨he, rfl⟩
    exact ⟨_, he, nil_rdW _, Below.refl _ _⟩
theorem cRWordsAny (w : World) (v : Value) (l : List Nat) (h : RdB w v l) (hn : l.length < 1000000000) :
    Calls Try.prog 13 #[v] w fun e w' => ∃ r, e = .returned (.tuple #[r, .int .i64 (wErr l : Nat)]) ∧ RdW w' r (wRes l) ∧ Below w.heap.size w w' := by
  unfold wErr wRes
  by_cases h4 : l.length % 4 = 0
  · rw [if_pos h4, if_pos h4]
    refine (cRWords w v l h hn (l.length / 4) (by omega)).mono ?_
    rintro e w' ⟨r, he, hN⟩
    exact ⟨r, he, hN.rdW (Pat.wordsOf_lt l h.2), hN.below⟩
  · rw [if_neg h4, if_neg h4]
    refine (cRWordsBad w v l h hn h4).mono ?_
    rintro e w' ⟨he, rfl⟩
    exact ⟨_, he, nil_rdW _, Below.refl _ _⟩
theorem below_step {A w w' : World} (h : Below A.heap.size A w) (k : Below w.heap.size w w') : Below A.heap.size A w' := h.trans (k.mono h.size)
theorem below_sub {A B : World} (h : Below A.heap.size A B) : ∀ y, Below B.heap.size B y → Below A.heap.size A y := fun y hy => below_step h hy
/-- The class of the worlds that come of W by new memory. -/
def Up (W : World) : World → Prop := fun y => Below W.heap.size W y
/-- A call that only makes memory, in a region that draws its order. -/
theorem eff_up {P : Program} {dst : Option Tmp} {a : Act} {K : Act → WP → WP → Prop} {f : FuncId} {args : Array Value} {A w : World} {r : Result Next} {R : Ending → World → Prop} (hA : Up A w) (hr : r = .ok (.enter f args) w) (hc : Calls P f args w R)
    (hk : ∀ e w', R e w' → ∃ u, e = .returned u ∧ Below w.heap.size w w' ∧ (Up A w' → K (a.put dst u) (Up w') (Up w'))) : effUpon P dst a (Up A) K r :=
  eff_call hr hc fun e w' he => by
    obtain ⟨u, h1, h2, h3⟩ := hk e w' he
    have h4 : Up A w' := below_step hA h2
    exact ⟨u, h1, Up w', Up w', Below.refl _ _, fun _ h => h, fun y hy => below_step h4 hy, h3 h4⟩
set_option maxHeartbeats 1000000 in
set_option maxRecDepth 100000 in
theorem converts (w : World) (va vb : Value) (la lb : List Nat) (ha : RdW w va la) (hb : RdB w vb lb) :
    Calls Try.prog 3 #[va, vb] w fun e w' => e = .returned (.bool true) ∧ Below w.heap.size w w' := by
  have HA := hid ha
  have HB := hid hb
  obtain ⟨a, capa, rfl, _⟩ := ha.open
  obtain ⟨b, capb, rfl, _⟩ := hb.open
  clear ha hb
  by_cases h1 : 4000 < la.length
  · have d1 : decide ((4000 : Int) < la.length) = true := by simp; omega
    go_enter Try.func3, Try.ntmps3
    go_wp2_with fail
    refine (cAlive w).mono ?_; rintro e w1 ⟨rfl, h1⟩
    go_wp2_with fail
    go_ret
    exact ⟨rfl, h1⟩
  · have d1 : decide ((4000 : Int) < la.length) = false := by simp; omega
    by_cases h2 : 4000 < lb.length
    · have d2 : decide ((4000 : Int) < lb.length) = true := by simp; omega
      go_enter Try.func3, Try.ntmps3
      go_wp2_with fail
      refine (cAlive w).mono ?_; rintro e w1 ⟨rfl, h1⟩
      go_wp2_with fail
      go_ret
      exact ⟨rfl, h1⟩
    · have d2 : decide ((4000 : Int) < lb.length) = false := by simp; omega
      have KW := hid (cWordsAny w _ lb HB.out (by omega))
      have KR := hid (fun w' (h : Below w.heap.size w w') => cRWordsAny w' _ lb (HB.out.below h) (by omega))
      have hl := wRes_len lb
      generalize wErr lb = er at *
      generalize hys : wRes lb = ys at *
      clear hys
      have hla : la.length < 1000000000 := by omega
      have hly : ys.length < 1000000000 := by omega
      go_enter Try.func3, Try.ntmps3
      go_wp2_with fail
      refine KW.out.mono ?_; rintro e w1 ⟨r1, rfl, hr1, hb1⟩
      have R1 := hid hr1
      have B1 := hid hb1
      clear hr1 hb1 KW
      go_wp2_with fail
      refine (KR.out _ B1.out).mono ?_; rintro e w2 ⟨r2, rfl, hr2, hb2⟩
      have R2 := hid hr2
      have R1' := hid (R1.out.below hb2)
      have B2 := hid (below_step B1.out hb2)
      clear hr2 hb2 KR R1 B1
      have K14 := hid (fun w' (h : Below w2.heap.size w2 w') => cBytes w' _ la (HA.out.below (below_step B2.out h)) hla)
      have K15 := hid (fun w' (h : Below w2.heap.size w2 w') => cRBytes w' _ la (HA.out.below (below_step B2.out h)) hla)
      have K16 : Hid (∀ w', Below w2.heap.size w2 w' → Calls Try.prog 16 #[r1, r2] w' fun e w'' => e = .returned (.bool true) ∧ Below w'.heap.size w' w'') := fun w' h =>
        (cSame w' r1 r2 ys ys (R1'.out.below h) (R2.out.below h) hly hly).mono fun e w'' ⟨he, hb⟩ => ⟨by rw [he]; simp, hb⟩
      have K17 := hid (fun w' (h : Below w2.heap.size w2 w') => cPSum w' _ la (HA.out.below (below_step B2.out h)) hla)
      have K18 := hid (fun w' (h : Below w2.heap.size w2 w') => cRSum w' _ la (HA.out.below (below_step B2.out h)) hla)
      have D2 := hid ((Below.refl w2.heap.size w2).drew)
      have hbt := hid (Pat.bytesOf_lt la)
      clear HA HB R1' R2
      generalize Pat.bytesOf la = bs at *
      generalize sum16 la = z at *
      have hT : ((strB bs).toList == (strB bs).toList) = true := by simp
      have hZ : ((z : Int) == z) = true := by simp
      have hE : ((er : Int) == er) = true := by simp
      go_wp2_with fail
      refine wp_region_ord (.pure 0 (.pure 3 (.eff 1 (.pure 2 (.eff 4 (.pure 5 (.pure 6 (.pure 7 (.pure 8 (.pure 9 (.eff 10 (.pure 11 (.pure 12 (.pure 13 (.pure 14 (.pure 15 (.pure 16 (.pure 17 (.pure 18 (.pure 20 (.eff 19 (.eff 21 (.pure 22 (.pure 23 (.pure 24 (.eff 25 (.pure 26 (.pure 27 .nil)))))))))))))))))))))))))))) (Up w2) (Up w2) (by kernel_rfl) (by kernel_rfl) D2.out (fun _ h => h) ?_
      iterate 2
        (apply ord_pure (ho := rfl)
         · go_simp
         · intro x hx; go_simp; rfl
         apply ord_norm
         · go_simp; rfl)
      apply ord_eff (ho := rfl)
      · go_simp
      intro x hx
      refine eff_up hx ?_ (K14.out x hx) ?_
      · go_simp
      rintro e w3 ⟨r3, rfl, n3⟩
      refine ⟨_, rfl, n3.below, fun hw => ?_⟩
      apply ord_norm
      · go_simp; rfl
      have D3 := hid hw
      have N3 := hid (n3.rdB hbt.out)
      clear hw n3 hx
      iterate 1
        (apply ord_pure (ho := rfl)
         · go_simp
         · intro x hx; have c3 := str8 (N3.out.below hx); go_simp; rfl
         apply ord_norm
         · go_simp; rfl)
      apply ord_eff (ho := rfl)
      · go_simp
      intro x hx
      refine eff_up hx ?_ (K15.out x (below_step D3.out hx)) ?_
      · go_simp
      rintro e w4 ⟨r4, rfl, n4⟩
      refine ⟨_, rfl, n4.below, fun hw => ?_⟩
      apply ord_norm
      · go_simp; rfl
      have D4 := hid (below_step D3.out hw)
      have N4 := hid (n4.rdB hbt.out)
      clear hw n4 hx
      iterate 1
        (apply ord_pure (ho := rfl)
         · go_simp
         · intro x hx; have c4 := str8 (N4.out.below hx); go_simp; rfl
         apply ord_norm
         · go_simp; rfl)
      iterate 4
        (apply ord_pure (ho := rfl)
         · go_simp
         · intro x hx; go_simp; rfl
         apply ord_norm
         · go_simp; rfl)
      apply ord_eff (ho := rfl)
      · go_simp
      intro x hx
      refine eff_up hx ?_ (K16.out x (below_step D4.out hx)) ?_
      · go_simp
      rintro e w5 ⟨rfl, n5⟩
      refine ⟨_, rfl, n5, fun hw => ?_⟩
      apply ord_norm
      · go_simp; rfl
      have D5 := hid (below_step D4.out hw)
      clear hw n5 hx
      iterate 9
        (apply ord_pure (ho := rfl)
         · go_simp
         · intro x hx; go_simp; rfl
         apply ord_norm
         · go_simp; rfl)
      apply ord_eff (ho := rfl)
      · go_simp
      intro x hx
      refine eff_up hx ?_ (K17.out x (below_step D5.out hx)) ?_
      · go_simp
      rintro e w6 ⟨rfl, n6⟩
      refine ⟨_, rfl, n6, fun hw => ?_⟩
      apply ord_norm
      · go_simp; rfl
      have D6 := hid (below_step D5.out hw)
      clear hw n6 hx
      apply ord_eff (ho := rfl)
      · go_simp
      intro x hx
      refine eff_up hx ?_ (K18.out x (below_step D6.out hx)) ?_
      · go_simp
      rintro e w7 ⟨rfl, n7⟩
      refine ⟨_, rfl, n7, fun hw => ?_⟩
      apply ord_norm
      · go_simp; rfl
      have D7 := hid (below_step D6.out hw)
      clear hw n7 hx
      iterate 3
        (apply ord_pure (ho := rfl)
         · go_simp
         · intro x hx; go_simp; rfl
         apply ord_norm
         · go_simp; rfl)
      apply ord_eff (ho := rfl)
      · go_simp
      intro x hx
      refine eff_up hx ?_ (cAlive x) ?_
      · go_simp
      rintro e w8 ⟨rfl, n8⟩
      refine ⟨_, rfl, n8, fun hw => ?_⟩
      apply ord_norm
      · go_simp; rfl
      have D8 := hid (below_step D7.out hw)
      clear hw n8 hx
      iterate 2
        (apply ord_pure (ho := rfl)
         · go_simp
         · intro x hx; go_simp; rfl
         apply ord_norm
         · go_simp; rfl)
      refine ord_nil fun x hx => ?_
      have hF := hid (below_step B2.out (below_step D8.out hx))
      clear hx
      go_wp2_with fail
      go_ret
      exact ⟨rfl, hF.out⟩
end Go.Proofs.Ytdboplkgnnidcaa
