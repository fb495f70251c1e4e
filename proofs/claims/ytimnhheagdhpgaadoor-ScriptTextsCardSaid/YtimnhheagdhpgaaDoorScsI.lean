/- The specification's Line: a file, a fault. -/
import Derived.Test.YtimnhheagdhpgaaDoorScsH
set_option linter.unusedVariables false
set_option linter.unusedSimpArgs false
namespace Go.Proofs.YtimnhheagdhpgaaDoor
open Go.RowKit Go.Proofs.Num
open Scr (Str bs numV numsV small svcV fltV nameV bytesV oneV fileV faultV orderV tailV flts parseL parseV b8 textV textL svcs svcN fltN ixOf valC digR pairR bytesR rnum magR splitW hexC hexB hexV lineV lineL)
section
variable {w : World}
set_option maxRecDepth 100000 in
set_option maxHeartbeats 16000000 in
theorem cLine3 (a : Scr.Act) (dv av cv : Value) (hk : a.kind = 3) (hO : LineOk a) (hV : ActV w a dv av cv) : Calls Tryd.prog 16 #[.agg (actC a dv av cv)] w fun e w' => lineE w w' (lineV a) e := by
  rw [line3 a hk]
  have HB0 := (Sts.nil w).alloc stab0 (.cells (actC a dv av cv) 29)
  have k0 := (Sts.actM HB0).c0
  rw [hk] at k0
  have HMM := hid (show ∀ x, Up (w.alloc (.cells (actC a dv av cv) 29)) x → ActM x w.heap.size a dv av cv from fun x hx => (Sts.actM HB0).below hx)
  have HLD := hid (show ∀ x, Up (w.alloc (.cells (actC a dv av cv) 29)) x → (loadVar 29 ⟨w.heap.size, 0, none⟩).run Tryd.prog x = .ok (.agg (actC a dv av cv)) x from fun x hx => ldAct rfl (HB0.quiet (stab1 (blkP_stable _ _)) hx))
  have D0 := hid ((Below.refl (w.alloc (.cells (actC a dv av cv) 29)).heap.size (w.alloc (.cells (actC a dv av cv) 29))).drew)
  have HB := hid HB0.below
  have HV := hid hV
  clear HB0 hV
  have HSAME := hid (show ∀ x, Up (w.alloc (.cells (actC a dv av cv) 29)) x → Calls Tryd.prog 23 #[.agg (actC a dv av cv), .agg #[.int .i64 3, .int .i64 a.num, .string ⟨a.name.toArray⟩, dv, .int .i64 0, .int .i64 0, .int .i64 0, (.slice none 0 0), (.slice none 0 0), .int .i64 0, .int .i64 0, .int .i64 0]] x fun e w' => e = .returned (.bool (decide (a = ({ Scr.act0 with kind := 3, num := a.num, name := a.name, data := a.data } : Scr.Act)))) ∧ Below x.heap.size x w' from fun x hx => cSame58 (w := x) a ({ Scr.act0 with kind := 3, num := a.num, name := a.name, data := a.data } : Scr.Act) dv av cv dv (.slice none 0 0) (.slice none 0 0) (HV.out.below (below_step HB.out hx)) (⟨(HV.out.below (below_step HB.out hx)).data, rd_nil x, rd_nil x⟩) hO.few (show (0 : Nat) < 1000000 by decide))
  obtain ⟨da, dc, hdv⟩ := HV.out.data.eq
  rw [u8v_len] at hdv
  have HX := hid (fun x (hx : Up (w.alloc (.cells (actC a dv av cv) 29)) x) (hN : a.data.length ≤ 65536) => cHexR (w := x) da dc a.data (by rw [← hdv]; exact HV.out.data.below (below_step HB.out hx)) (by omega))
  have HDG := hid (fun x : World => cDigits (w := x) a.num hO.num)
  have HSM := hid (fun x : World => cSmall (w := x) a.num)
  have HNM := hid (fun x : World => cRName (w := x) ⟨a.name.toArray⟩ (by have := size_le hO.name; omega))
  rw [show bs ⟨a.name.toArray⟩ = a.name from rfl] at HNM
  have HM := hid (show ∀ x, Up (w.alloc (.cells (actC a dv av cv) 29)) x → x.cell? ⟨w.heap.size, 1, none⟩ = some (.int .i64 a.num) ∧ x.cell? ⟨w.heap.size, 2, none⟩ = some (.string ⟨a.name.toArray⟩) ∧ x.cell? ⟨w.heap.size, 3, none⟩ = some (.slice da a.data.length dc) from fun x hx => ⟨(HMM.out x hx).c1, (HMM.out x hx).c2, by rw [← hdv]; exact (HMM.out x hx).c3⟩)
  rw [hdv] at HSAME
  obtain ⟨cs, hcs⟩ : ∃ cs, cs = actC a dv av cv := ⟨_, rfl⟩
  clear HMM
  rw [← hdv] at HSAME
  rw [← hcs] at k0 HM HX HLD D0 HB HSAME ⊢
  rw [hdv] at HSAME
  clear hcs
  obtain ⟨sm, hsm⟩ : ∃ sm, sm = small a.num := ⟨_, rfl⟩
  obtain ⟨nv, hnv⟩ : ∃ nv, nv = nameV a.name := ⟨_, rfl⟩
  obtain ⟨q, hq⟩ : ∃ q, q = decide (a = ({ Scr.act0 with kind := 3, num := a.num, name := a.name, data := a.data } : Scr.Act)) := ⟨_, rfl⟩
  obtain ⟨res, hres⟩ : ∃ res, res = (if small a.num = true ∧ nameV a.name = true ∧ a.data.length ≤ 65536 ∧ a = ({ Scr.act0 with kind := 3, num := a.num, name := a.name, data := a.data } : Scr.Act) then some (b8 "file" ++ 32 :: (Lib.itoa a.num ++ 32 :: (a.name ++ 32 :: hexV a.data))) else none : Option Str) := ⟨_, rfl⟩
  rw [← hres]
  obtain ⟨N, hN⟩ : ∃ N, N = a.data.length := ⟨_, rfl⟩
  have hres2 : res = if (sm && (nv && (decide (N ≤ 65536) && q))) = true then some (b8 "file" ++ 32 :: (Lib.itoa a.num ++ 32 :: (a.name ++ 32 :: hexV a.data))) else none := by rw [hres, hsm, hnv, hq, hN]; simp
  rw [← hsm] at HSM
  rw [← hnv] at HNM
  rw [← hq] at HSAME
  rw [← hN] at HX HM HSAME
  have hHL : ∀ X : ByteArray, bs X = hexV a.data → X.size = 1 + 2 * N := fun X hX => by rw [Scr.bs_size, hX, hN]; simp [hexV, Scr.hexB_len]; omega
  have HHL := hid hHL
  have HRES := hid hres2
  obtain ⟨M, hM⟩ : ∃ M : ByteArray, M = ⟨a.name.toArray⟩ := ⟨_, rfl⟩
  have hM1 : M.size < 1000000 := by rw [hM]; exact size_le hO.name
  have HMB := hid (show bs M = a.name by rw [hM])
  rw [← hM] at HNM HM HSAME
  clear hM hHL hN hnv hdv
  clear hres hres2 hsm hq hO hk HV
  obtain ⟨n, hn⟩ : ∃ n, n = a.num := ⟨_, rfl⟩
  rw [← hn] at HDG HSM HSAME HM HRES
  clear hn
  obtain ⟨k1, k2, k3⟩ := HM.out (w.alloc (.cells cs 29)) (Below.refl _ _)
  cases sm with
  | false =>
    go_enter Tryd.func16, Tryd.ntmps16
    go_wp2_with (first | (go_at_call 28; refine (HSM.out _).mono ?_; rintro e w1 ⟨rfl, hw1⟩; rw [hw1]) | (go_at_call 30; refine (HNM.out _).mono ?_; rintro e w2 ⟨rfl, hw2⟩; rw [hw2]))
    go_ret2
    refine ⟨⟨_, by rw [HRES.out]; first | rfl | simp, ?_⟩, HB.out⟩
    intro t ht
    rw [HRES.out] at ht
    first | cases ht | simp at ht
  | true =>
    cases nv with
    | false =>
      go_enter Tryd.func16, Tryd.ntmps16
      go_wp2_with (first | (go_at_call 28; refine (HSM.out _).mono ?_; rintro e w1 ⟨rfl, hw1⟩; rw [hw1]) | (go_at_call 30; refine (HNM.out _).mono ?_; rintro e w2 ⟨rfl, hw2⟩; rw [hw2]))
      go_ret2
      refine ⟨⟨_, by rw [HRES.out]; first | rfl | simp, ?_⟩, HB.out⟩
      intro t ht
      rw [HRES.out] at ht
      first | cases ht | simp at ht
    | true =>
      by_cases hN6 : N ≤ 65536
      · have d1 : decide (65536 < (N : Int)) = false := decide_eq_false (by omega)
        have d2 : ¬ 65536 < (N : Int) := by omega
        go_enter Tryd.func16, Tryd.ntmps16
        go_wp2_with (first | (go_at_call 28; refine (HSM.out _).mono ?_; rintro e w1 ⟨rfl, hw1⟩; rw [hw1]) | (go_at_call 30; refine (HNM.out _).mono ?_; rintro e w2 ⟨rfl, hw2⟩; rw [hw2]))
        refine wp_region_ord (.pure 0 (.pure 1 (.pure 5 (.pure 6 (.pure 9 (.pure 10 (.pure 13 (.pure 14 (.pure 15 (.pure 16 (.pure 17 (.pure 18 (.pure 19 (.pure 20 (.eff 2 (.pure 3 (.pure 4 (.pure 7 (.pure 8 (.eff 11 (.pure 12 (.eff 21 (.pure 22 (.pure 23 .nil)))))))))))))))))))))))) (Up (w.alloc (.cells cs 29))) (Up (w.alloc (.cells cs 29))) (by kernel_rfl) (by kernel_rfl) D0.out (fun _ h => h) ?_
        iterate 6
          (apply ord_pure (ho := rfl)
           · go_simp
           · intro x hx; obtain ⟨c1, c2, c3⟩ := HM.out x hx; go_simp; rfl
           apply ord_norm
           · go_simp; rfl)
        apply ord_pure (v := .agg cs) (ho := rfl)
        · go_simp
        · exact fun x hx => exec_ld (.tmp 1) 29 rfl rfl (HLD.out x hx)
        apply ord_norm
        · go_simp; rfl
        iterate 6
          (apply ord_pure (ho := rfl)
           · go_simp
           · intro x hx; obtain ⟨c1, c2, c3⟩ := HM.out x hx; go_simp; rfl
           apply ord_norm
           · go_simp; rfl)
        iterate 1
          (apply ord_pure (ho := rfl)
           · go_simp
           · intro x hx; go_simp; rfl
           apply ord_norm
           · go_simp; rfl)
        apply ord_eff (ho := rfl)
        · go_simp
        intro x hx
        refine eff_up hx ?_ (HDG.out x) ?_
        · go_simp
        rintro e w3 ⟨I, rfl, ⟨hI, hI2⟩, hb⟩
        refine ⟨_, rfl, hb, fun hw => ?_⟩
        apply ord_norm
        · go_simp; rfl
        have D3 := hid hw
        have HIB := hid hI
        have f1 : ¬ 9223372036854775807 < 5 + I.size := by omega
        have f2 : ¬ 9223372036854775807 < 5 + I.size + 1 := by omega
        have f3 : ¬ 9223372036854775807 < 5 + I.size + 1 + M.size := by omega
        have f4 : ¬ 9223372036854775807 < 5 + I.size + 1 + M.size + 1 := by omega
        clear hw hb hx hI
        iterate 4
          (apply ord_pure (ho := rfl)
           · go_simp
           · intro x hx; go_simp; rfl
           apply ord_norm
           · go_simp; rfl)
        apply ord_eff (ho := rfl)
        · go_simp
        intro x hx
        refine eff_up hx ?_ (HX.out x (below_step D3.out hx) hN6) ?_
        · go_simp
        rintro e w4 ⟨X, rfl, hX, hb⟩
        refine ⟨_, rfl, hb, fun hw => ?_⟩
        apply ord_norm
        · go_simp; rfl
        have D4 := hid (below_step D3.out hw)
        have hXS := HHL.out X hX
        have f5 : ¬ 9223372036854775807 < 5 + I.size + 1 + M.size + 1 + X.size := by omega
        have HXB := hid hX
        clear hw hb hx hX hXS
        iterate 1
          (apply ord_pure (ho := rfl)
           · go_simp
           · intro x hx; go_simp; rfl
           apply ord_norm
           · go_simp; rfl)
        apply ord_eff (ho := rfl)
        · go_simp
        intro x hx
        refine eff_up hx ?_ (HSAME.out x (below_step D4.out hx)) ?_
        · go_simp
        rintro e w5 ⟨rfl, hb⟩
        refine ⟨_, rfl, hb, fun hw => ?_⟩
        apply ord_norm
        · go_simp; rfl
        have D5 := hid (below_step D4.out hw)
        clear hw hb hx
        iterate 2
          (apply ord_pure (ho := rfl)
           · go_simp
           · intro x hx; go_simp; rfl
           apply ord_norm
           · go_simp; rfl)
        apply ord_nil
        intro y hy
        have HY := hid hy
        clear hy
        go_wp2_with fail
        go_ret2
        have hs9 : res.isSome = q := by rw [HRES.out]; cases q <;> simp [hN6]
        refine ⟨⟨_, by rw [hs9]; rfl, ?_⟩, below_step HB.out (below_step D5.out HY.out)⟩
        intro t ht
        rw [HRES.out] at ht
        cases q with
        | false => simp at ht
        | true =>
          rw [if_pos (by simp [hN6])] at ht
          injection ht with ht
          rw [← ht]
          simp only [bs_app, HIB.out, HXB.out, HMB.out, List.append_assoc]
          rfl
      · have d1 : decide (65536 < (N : Int)) = true := decide_eq_true (by omega)
        have d2 : 65536 < (N : Int) := by omega
        rw [decide_eq_false hN6] at HRES
        go_enter Tryd.func16, Tryd.ntmps16
        go_wp2_with (first | (go_at_call 28; refine (HSM.out _).mono ?_; rintro e w1 ⟨rfl, hw1⟩; rw [hw1]) | (go_at_call 30; refine (HNM.out _).mono ?_; rintro e w2 ⟨rfl, hw2⟩; rw [hw2]))
        go_ret2
        refine ⟨⟨_, by rw [HRES.out]; first | rfl | simp, ?_⟩, HB.out⟩
        intro t ht
        rw [HRES.out] at ht
        first | cases ht | simp at ht
end
end Go.Proofs.YtimnhheagdhpgaaDoor
