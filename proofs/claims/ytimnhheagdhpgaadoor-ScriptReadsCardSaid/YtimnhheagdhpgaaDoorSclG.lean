/- ScriptReads: the walk. -/
import Derived.Test.YtimnhheagdhpgaaDoorScsW
import Derived.Test.YtimnhheagdhpgaaDoorSclB
set_option linter.unusedVariables false
set_option linter.unusedSimpArgs false
namespace Go.Proofs.YtimnhheagdhpgaaDoor
open Go.RowKit Go.Proofs.Num
open Scr (Str bs parseV linesV)
section
variable {w : World}
set_option maxRecDepth 100000 in
set_option maxHeartbeats 16000000 in
theorem readsLaw (S : ByteArray) (hE : Env w) : Calls Tryd.prog 4 #[.string S] w fun e w' => e = .returned (.bool true) ∧ Below w.heap.size w w' := by
  obtain ⟨N, hN⟩ : ∃ N, N = S.size := ⟨_, rfl⟩
  by_cases hb : 2000 < N
  · have d1 : decide (2000 < (N : Int)) = true := decide_eq_true (by omega)
    have hz : S.size = N := hN.symm
    clear hE hN
    go_enter Tryd.func4, Tryd.ntmps4
    go_wp2_with fail
    all_goals (go_ret; exact ⟨rfl, Below.refl _ _⟩)
  · have d1 : decide (2000 < (N : Int)) = false := decide_eq_false (by omega)
    have d2 : ¬ 2000 < (N : Int) := by omega
    have hz : S.size = N := hN.symm
    have hsl : (bs S).length < 900000 := by rw [← Scr.bs_size]; omega
    have hL0 := cLines (w := w) (bs S) hsl hE
    rw [Scr.mk_bs] at hL0
    have HFEW := hid (linesV_few hsl)
    have hcnt := linesV_cnt (bs S)
    have HL0 := hid (hL0.mono fun e w' h => linesE.two h)
    have HR0 := hid (fun x : World => (cLinesR (w := x) S (by omega)).mono fun e w' h => linesE.two h)
    obtain ⟨o, ho⟩ : ∃ o, o = (linesV (bs S)).1 := ⟨_, rfl⟩
    obtain ⟨K, hK⟩ : ∃ K, K = (linesV (bs S)).2 := ⟨_, rfl⟩
    rw [← ho, ← hK] at HL0 HR0
    rw [← ho] at HFEW hcnt
    obtain ⟨n, hn⟩ : ∃ n, n = o.length := ⟨_, rfl⟩
    rw [← hn] at HL0 HR0
    have HN := hid hn
    have hn9 : n < 900000 := by omega
    have HAW := hid (fun x (hx : Below w.heap.size w x) => cAwake (w := x) (hE.below hx))
    clear hL0 ho hK hn hsl hE hN hcnt
    go_enter Tryd.func4, Tryd.ntmps4
    go_wp2_with (first | (go_at_call 12; refine HL0.out.mono ?_; rintro e w1 ⟨ad1, c1, rfl, hb1, hE1⟩; have HB1 := hid hb1; have HE1 := hid hE1; clear hb1 hE1) | (go_at_call 13; refine (HR0.out _).mono ?_; rintro e w2 ⟨ad2, c2, rfl, hb2, hE2⟩; have HB2 := hid (below_step HB1.out hb2); have HUP := hid (show Below w1.heap.size w1 w2 from hb2); have HE2 := hid hE2; clear hb2 hE2))
    go_loopw [7] (fun i wr => ∃ k : Nat, i = .int .i64 k ∧ k ≤ n ∧ Hid (Up w2 wr)) (fun i _ => n - (intOf i).toNat)
    case atStart => exact ⟨0, rfl, by omega, hid (Below.refl _ _)⟩
    case round =>
      obtain ⟨k, rfl, hk, HU⟩ := hrel
      by_cases hlt : k < n
      · obtain ⟨g1, dv1, av1, cv1, rfl, hx1⟩ := HE1.out k (by rw [← HN.out]; exact hlt)
        obtain ⟨g2, dv2, av2, cv2, rfl, hx2⟩ := HE2.out k (by rw [← HN.out]; exact hlt)
        have hfw := HFEW.out o[k] (List.getElem_mem _)
        obtain ⟨a, ha⟩ : ∃ a, a = o[k]'(by rw [← HN.out]; exact hlt) := ⟨_, rfl⟩
        rw [← ha] at hx1 hx2 hfw
        have HX1 := hid (fun x (hx : Up wr x) => hx1 x (below_step HUP.out (below_step HU.out hx)))
        have HX2 := hid (fun x (hx : Up wr x) => hx2 x (below_step HU.out hx))
        have HSM := hid (fun (x : World) (hx : Up wr x) => cSameR (w := x) a a dv1 av1 cv1 dv2 av2 cv2 (HX1.out x hx).2 (HX2.out x hx).2 hfw hfw)
        rw [decide_eq_true rfl] at HSM
        clear hx1 hx2 ha hfw HE1 HE2 HFEW HL0 HR0
        have D0 := hid ((Below.refl wr.heap.size wr).drew)
        go_wp2_with fail
        refine wp_region_ord (.pure 0 (.pure 1 (.pure 2 (.pure 3 (.pure 4 (.pure 5 (.pure 6 (.pure 7 (.eff 8 (.pure 9 .nil)))))))))) (Up wr) (Up wr) (by kernel_rfl) (by kernel_rfl) D0.out (fun _ h => h) ?_
        iterate 2
          (apply ord_pure (ho := rfl)
           · go_simp
           · intro x hx; go_simp; rfl
           apply ord_norm
           · go_simp; rfl)
        apply ord_pure (ho := rfl)
        · go_simp
        · intro x hx; exact exec_ixA (.tmp 37) (.tmp 38) rfl rfl rfl hlt
        apply ord_norm
        · go_simp; rfl
        apply ord_pure (ho := rfl)
        · go_simp
        · exact fun x hx => exec_ld (.tmp 39) 29 rfl rfl (HX1.out x hx).1
        apply ord_norm
        · go_simp; rfl
        iterate 2
          (apply ord_pure (ho := rfl)
           · go_simp
           · intro x hx; go_simp; rfl
           apply ord_norm
           · go_simp; rfl)
        apply ord_pure (ho := rfl)
        · go_simp
        · intro x hx; exact exec_ixA (.tmp 41) (.tmp 42) rfl rfl rfl hlt
        apply ord_norm
        · go_simp; rfl
        apply ord_pure (ho := rfl)
        · go_simp
        · exact fun x hx => exec_ld (.tmp 43) 29 rfl rfl (HX2.out x hx).1
        apply ord_norm
        · go_simp; rfl
        apply ord_eff (ho := rfl)
        · go_simp
        intro x hx
        refine eff_up hx ?_ (HSM.out x hx) ?_
        · go_simp
        rintro e w3 ⟨rfl, hb⟩
        refine ⟨_, rfl, hb, fun hw => ?_⟩
        apply ord_norm
        · go_simp; rfl
        have D3 := hid hw
        clear hw hb hx
        iterate 1
          (apply ord_pure (ho := rfl)
           · go_simp
           · intro x hx; go_simp; rfl
           apply ord_norm
           · go_simp; rfl)
        apply ord_nil
        intro y hy
        have HY := hid (below_step HU.out (below_step D3.out hy))
        clear hy
        go_wp2_with fail
        all_goals (go_roundw
                   case rel => exact ⟨k + 1, by simp [intOf], by omega, hid HY.out⟩
                   case measure => simp [intOf]; omega)
      · obtain rfl : k = n := by omega
        clear HE1 HE2 HFEW HL0 HR0 HN hlt
        have HB3 := hid (below_step HB2.out HU.out)
        go_wp2_with (first | (go_at_call 11; refine (HAW.out _ HB3.out).mono ?_; rintro e w6 ⟨rfl, hb⟩; have H6 := hid (below_step HB3.out hb); clear hb))
        all_goals (go_ret; exact ⟨rfl, H6.out⟩)
end
end Go.Proofs.YtimnhheagdhpgaaDoor
