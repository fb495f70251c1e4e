/- The specification's Line: a fault. -/
import Derived.Test.YtimnhheagdhpgaaDoorScsH
set_option linter.unusedVariables false
set_option linter.unusedSimpArgs false
namespace Go.Proofs.YtimnhheagdhpgaaDoor
open Go.RowKit Go.Proofs.Num
open Scr (Str bs numV numsV small svcV fltV nameV bytesV oneV fileV faultV orderV tailV flts parseL parseV b8 textV textL svcs svcN fltN ixOf valC digR pairR bytesR rnum magR splitW hexC hexB hexV lineV lineL)
set_option maxRecDepth 100000 in
theorem ld_fault {w : World} {b : Nat} {x y z : Int} (h1 : w.cell? ⟨b, 9, none⟩ = some (.int .i64 x)) (h2 : w.cell? ⟨b, 10, none⟩ = some (.int .i64 y)) (h3 : w.cell? ⟨b, 11, none⟩ = some (.int .i64 z)) : (loadVar 27 ⟨b, 9, none⟩).run Tryd.prog w = .ok (.agg #[.int .i64 x, .int .i64 y, .int .i64 z]) w := by
  simp [go_sem, loadVar, h1, h2, h3]
section
variable {w : World}
set_option maxRecDepth 100000 in
set_option maxHeartbeats 4000000 in
theorem cLine4a (a : Scr.Act) (dv av cv : Value) (hk : a.kind = 4) (hf : ¬ (1 ≤ a.fk ∧ a.fk ≤ 7)) : Calls Tryd.prog 16 #[.agg (actC a dv av cv)] w fun e w' => lineE w w' (lineV a) e := by
  rw [line4 a hk, if_neg (fun h => hf h.1)]
  have HB := hid ((Sts.nil w).alloc stab0 (.cells (actC a dv av cv) 29))
  have k0 := (Sts.actM HB.out).c0
  have k9 := (Sts.actM HB.out).c9
  rw [hk] at k0
  obtain ⟨cs, hcs⟩ : ∃ cs, cs = actC a dv av cv := ⟨_, rfl⟩
  rw [← hcs] at HB k0 k9 ⊢
  clear hcs hk
  rcases (show a.fk < 1 ∨ (1 ≤ a.fk ∧ 7 < a.fk) by omega) with h1 | ⟨h1, h2⟩
  · have d1 : decide (a.fk < 1) = true := decide_eq_true h1
    clear hf
    go_enter Tryd.func16, Tryd.ntmps16
    go_wp2_with fail
    go_ret2
    exact ⟨⟨_, rfl, fun t h => by cases h⟩, HB.out.below⟩
  · have d1 : decide (a.fk < 1) = false := decide_eq_false (by omega)
    have d2 : decide (7 < a.fk) = true := decide_eq_true h2
    clear hf
    go_enter Tryd.func16, Tryd.ntmps16
    go_wp2_with fail
    go_ret2
    exact ⟨⟨_, rfl, fun t h => by cases h⟩, HB.out.below⟩
set_option maxRecDepth 100000 in
set_option maxHeartbeats 16000000 in
theorem cLine4 (a : Scr.Act) (dv av cv : Value) (hk : a.kind = 4) (hf : 1 ≤ a.fk ∧ a.fk ≤ 7) (hO : LineOk a) (hV : ActV w a dv av cv) : Calls Tryd.prog 16 #[.agg (actC a dv av cv)] w fun e w' => lineE w w' (lineV a) e := by
  rw [line4 a hk]
  have HB0 := (Sts.nil w).alloc stab0 (.cells (actC a dv av cv) 29)
  have k0 := (Sts.actM HB0).c0
  rw [hk] at k0
  have HMM := hid (show ∀ x, Up (w.alloc (.cells (actC a dv av cv) 29)) x → ActM x w.heap.size a dv av cv from fun x hx => (Sts.actM HB0).below hx)
  have HLD := hid (show ∀ x, Up (w.alloc (.cells (actC a dv av cv) 29)) x → (loadVar 29 ⟨w.heap.size, 0, none⟩).run Tryd.prog x = .ok (.agg (actC a dv av cv)) x from fun x hx => ldAct rfl (HB0.quiet (stab1 (blkP_stable _ _)) hx))
  have D0 := hid ((Below.refl (w.alloc (.cells (actC a dv av cv) 29)).heap.size (w.alloc (.cells (actC a dv av cv) 29))).drew)
  have HB := hid HB0.below
  have HV := hid hV
  clear HB0 hV
  have HSAME := hid (show ∀ x, Up (w.alloc (.cells (actC a dv av cv) 29)) x → Calls Tryd.prog 23 #[.agg (actC a dv av cv), .agg #[.int .i64 4, .int .i64 0, .string ⟨#[]⟩, (.slice none 0 0), .int .i64 0, .int .i64 0, .int .i64 0, (.slice none 0 0), (.slice none 0 0), .int .i64 a.fk, .int .i64 a.fat, .int .i64 a.fbit]] x fun e w' => e = .returned (.bool (decide (a = ({ Scr.act0 with kind := 4, fk := a.fk, fat := a.fat, fbit := a.fbit } : Scr.Act)))) ∧ Below x.heap.size x w' from fun x hx => cSame58 (w := x) a ({ Scr.act0 with kind := 4, fk := a.fk, fat := a.fat, fbit := a.fbit } : Scr.Act) dv av cv (.slice none 0 0) (.slice none 0 0) (.slice none 0 0) (HV.out.below (below_step HB.out hx)) (act_nil _ rfl rfl rfl x) hO.few (show (0 : Nat) < 1000000 by decide))
  obtain ⟨k, hkk⟩ : ∃ k : Nat, a.fk = (k : Int) + 1 := ⟨(a.fk - 1).toNat, by omega⟩
  have hk7 : k < 7 := by omega
  have HFT := hid (show ∀ x, Up (w.alloc (.cells (actC a dv av cv) 29)) x → (loadVar 27 ⟨w.heap.size, 9, none⟩).run Tryd.prog x = .ok (.agg #[.int .i64 ((k : Int) + 1), .int .i64 a.fat, .int .i64 a.fbit]) x from fun x hx => by
    have m := HMM.out x hx
    have c9 := m.c9
    rw [hkk] at c9
    exact ld_fault c9 m.c10 m.c11)
  have HM := hid (show ∀ x, Up (w.alloc (.cells (actC a dv av cv) 29)) x → x.cell? ⟨w.heap.size, 9, none⟩ = some (.int .i64 ((k : Int) + 1)) ∧ x.cell? ⟨w.heap.size, 10, none⟩ = some (.int .i64 a.fat) ∧ x.cell? ⟨w.heap.size, 11, none⟩ = some (.int .i64 a.fbit) from fun x hx => ⟨by rw [← hkk]; exact (HMM.out x hx).c9, (HMM.out x hx).c10, (HMM.out x hx).c11⟩)
  have k9 := (HM.out (w.alloc (.cells (actC a dv av cv) 29)) (Below.refl _ _)).1
  have HFL := hid (fun x : World => cRFaultsK (w := x) k hk7)
  have HDA := hid (fun x : World => cDigits (w := x) a.fat hO.fat)
  have HDB := hid (fun x : World => cDigits (w := x) a.fbit hO.fbit)
  have HSA := hid (fun x : World => cSmall (w := x) a.fat)
  have HSB := hid (fun x : World => cSmall (w := x) a.fbit)
  obtain ⟨cs, hcs⟩ : ∃ cs, cs = actC a dv av cv := ⟨_, rfl⟩
  clear HMM
  rw [← hcs] at k0 HFT HM k9 HLD D0 HB HSAME ⊢
  clear hcs
  obtain ⟨s1, hs1⟩ : ∃ s1, s1 = small a.fat := ⟨_, rfl⟩
  obtain ⟨s2, hs2⟩ : ∃ s2, s2 = small a.fbit := ⟨_, rfl⟩
  obtain ⟨q, hq⟩ : ∃ q, q = decide (a = ({ Scr.act0 with kind := 4, fk := a.fk, fat := a.fat, fbit := a.fbit } : Scr.Act)) := ⟨_, rfl⟩
  obtain ⟨res, hres⟩ : ∃ res, res = (if (1 ≤ a.fk ∧ a.fk ≤ 7) ∧ small a.fat = true ∧ small a.fbit = true ∧ a = ({ Scr.act0 with kind := 4, fk := a.fk, fat := a.fat, fbit := a.fbit } : Scr.Act) then some (b8 "fault" ++ 32 :: (fltN a.fk ++ 32 :: (Lib.itoa a.fat ++ 32 :: Lib.itoa a.fbit))) else none : Option Str) := ⟨_, rfl⟩
  rw [← hres]
  have hres2 : res = if (s1 && (s2 && q)) = true then some (b8 "fault" ++ 32 :: (fltN ((k : Int) + 1) ++ 32 :: (Lib.itoa a.fat ++ 32 :: Lib.itoa a.fbit))) else none := by rw [hres, hs1, hs2, hq, ← hkk]; simp [hf]
  rw [← hs1] at HSA
  rw [← hs2] at HSB
  rw [← hq, hkk] at HSAME
  have HRES := hid hres2
  have d1 : decide ((k : Int) + 1 < 1) = false := decide_eq_false (by omega)
  have d2 : decide (7 < (k : Int) + 1) = false := decide_eq_false (by omega)
  have d3 : ¬ 7 < (k : Int) + 1 := by omega
  have d4 : ¬ (k : Int) + 1 < 1 := by omega
  have d5 : (k : Int) + 1 - 1 = (k : Int) := by omega
  have d6 : IntKind.i64.wrap ((k : Int) + 1 - 1) = (k : Int) := by rw [IntKind.wrap_i64]; omega
  have d7 : (k : Int) < 7 := by omega
  have d9 : IntKind.i64.wrap (k : Int) = (k : Int) := by rw [IntKind.wrap_i64]; omega
  have d8 : (0 : Int) ≤ (k : Int) := by omega
  clear hres hres2 hs1 hs2 hq hO hk HV hkk hf
  obtain ⟨n, hn⟩ : ∃ n, n = a.fat := ⟨_, rfl⟩
  obtain ⟨m, hm⟩ : ∃ m, m = a.fbit := ⟨_, rfl⟩
  rw [← hn] at HDA HSA HSAME HM HRES HFT
  rw [← hm] at HDB HSB HSAME HM HRES HFT
  clear hn hm
  cases s1 with
  | false =>
    go_enter Tryd.func16, Tryd.ntmps16
    go_wp2_with fail
    refine wp_region_ord (.pure 1 (.pure 2 (.pure 7 (.pure 8 (.pure 9 (.pure 13 (.pure 14 (.pure 15 (.pure 18 (.pure 19 (.pure 20 (.eff 0 (.pure 3 (.pure 4 (.pure 5 (.pure 6 (.eff 10 (.pure 11 (.pure 12 (.eff 16 (.pure 17 (.eff 21 (.pure 22 (.pure 23 (.pure 24 (.pure 25 (.eff 26 (.pure 27 (.pure 28 (.pure 29 (.pure 30 (.pure 31 (.pure 32 (.eff 33 (.pure 34 (.pure 35 (.pure 36 .nil))))))))))))))))))))))))))))))))))))) (Up (w.alloc (.cells cs 29))) (Up (w.alloc (.cells cs 29))) (by kernel_rfl) (by kernel_rfl) D0.out (fun _ h => h) ?_
    iterate 11
      (apply ord_pure (ho := rfl)
       · go_simp
       · intro x hx; obtain ⟨c1, c2, c3⟩ := HM.out x hx; go_simp; rfl
       apply ord_norm
       · go_simp; rfl)
    apply ord_eff (ho := rfl)
    · go_simp
    intro x hx
    refine eff_up hx ?_ (HFL.out x) ?_
    · go_simp
    rintro e w3 ⟨g, F, rfl, ⟨hF, hF2⟩, hb, hcF⟩
    refine ⟨_, rfl, hb, fun hw => ?_⟩
    apply ord_norm
    · go_simp; rfl
    have D3 := hid hw
    have HCF := hid hcF
    have HFB := hid hF
    have f1 : ¬ 9223372036854775807 < 6 + F.size := by omega
    have f2 : ¬ 9223372036854775807 < 6 + F.size + 1 := by omega
    clear hw hb hx hF hcF
    iterate 1
      (apply ord_pure (ho := rfl)
       · go_simp
       · intro x hx; go_simp; rfl
       apply ord_norm
       · go_simp; rfl)
    iterate 1
      (apply ord_pure (ho := rfl)
       · go_simp
       · intro x hx; have c4 := HCF.out x hx; go_simp; rfl
       apply ord_norm
       · go_simp; rfl)
    iterate 2
      (apply ord_pure (ho := rfl)
       · go_simp
       · intro x hx; go_simp; rfl
       apply ord_norm
       · go_simp; rfl)
    apply ord_eff (ho := rfl)
    · go_simp
    intro x hx
    refine eff_up hx ?_ (HDA.out x) ?_
    · go_simp
    rintro e w4 ⟨I, rfl, ⟨hI, hI2⟩, hb⟩
    refine ⟨_, rfl, hb, fun hw => ?_⟩
    apply ord_norm
    · go_simp; rfl
    have D4 := hid (below_step D3.out hw)
    have HIB := hid hI
    have f3 : ¬ 9223372036854775807 < 6 + F.size + 1 + I.size := by omega
    have f4 : ¬ 9223372036854775807 < 6 + F.size + 1 + I.size + 1 := by omega
    clear hw hb hx hI
    iterate 2
      (apply ord_pure (ho := rfl)
       · go_simp
       · intro x hx; go_simp; rfl
       apply ord_norm
       · go_simp; rfl)
    apply ord_eff (ho := rfl)
    · go_simp
    intro x hx
    refine eff_up hx ?_ (HDB.out x) ?_
    · go_simp
    rintro e w5 ⟨J, rfl, ⟨hJ, hJ2⟩, hb⟩
    refine ⟨_, rfl, hb, fun hw => ?_⟩
    apply ord_norm
    · go_simp; rfl
    have D5 := hid (below_step D4.out hw)
    have HJB := hid hJ
    have f5 : ¬ 9223372036854775807 < 6 + F.size + 1 + I.size + 1 + J.size := by omega
    clear hw hb hx hJ
    iterate 1
      (apply ord_pure (ho := rfl)
       · go_simp
       · intro x hx; go_simp; rfl
       apply ord_norm
       · go_simp; rfl)
    apply ord_eff (ho := rfl)
    · go_simp
    intro x hx
    refine eff_same (by go_simp) hx (fun _ h => h) (HSA.out x) ?_
    apply ord_norm
    · go_simp; rfl
    clear hx
    iterate 1
      (apply ord_pure (ho := rfl)
       · go_simp
       · intro x hx; go_simp; rfl
       apply ord_norm
       · go_simp; rfl)
    iterate 3
      (apply ord_skip (ho := rfl)
       · go_simp
       apply ord_norm
       · go_simp; rfl)
    apply ord_eskip (ho := rfl)
    · go_simp
    apply ord_norm
    · go_simp; rfl
    iterate 2
      (apply ord_pure (ho := rfl)
       · go_simp
       · intro x hx; go_simp; rfl
       apply ord_norm
       · go_simp; rfl)
    iterate 4
      (apply ord_skip (ho := rfl)
       · go_simp
       apply ord_norm
       · go_simp; rfl)
    apply ord_eskip (ho := rfl)
    · go_simp
    apply ord_norm
    · go_simp; rfl
    iterate 3
      (apply ord_pure (ho := rfl)
       · go_simp
       · intro x hx; go_simp; rfl
       apply ord_norm
       · go_simp; rfl)
    apply ord_nil
    intro y hy
    have HY := hid hy
    clear hy
    go_wp2_with fail
    go_ret2
    refine ⟨⟨_, by rw [HRES.out]; first | rfl | simp, ?_⟩, below_step HB.out (below_step D5.out HY.out)⟩
    intro t ht
    rw [HRES.out] at ht
    first | cases ht | simp at ht
  | true =>
    cases s2 with
    | false =>
      go_enter Tryd.func16, Tryd.ntmps16
      go_wp2_with fail
      refine wp_region_ord (.pure 1 (.pure 2 (.pure 7 (.pure 8 (.pure 9 (.pure 13 (.pure 14 (.pure 15 (.pure 18 (.pure 19 (.pure 20 (.eff 0 (.pure 3 (.pure 4 (.pure 5 (.pure 6 (.eff 10 (.pure 11 (.pure 12 (.eff 16 (.pure 17 (.eff 21 (.pure 22 (.pure 23 (.pure 24 (.pure 25 (.eff 26 (.pure 27 (.pure 28 (.pure 29 (.pure 30 (.pure 31 (.pure 32 (.eff 33 (.pure 34 (.pure 35 (.pure 36 .nil))))))))))))))))))))))))))))))))))))) (Up (w.alloc (.cells cs 29))) (Up (w.alloc (.cells cs 29))) (by kernel_rfl) (by kernel_rfl) D0.out (fun _ h => h) ?_
      iterate 11
        (apply ord_pure (ho := rfl)
         · go_simp
         · intro x hx; obtain ⟨c1, c2, c3⟩ := HM.out x hx; go_simp; rfl
         apply ord_norm
         · go_simp; rfl)
      apply ord_eff (ho := rfl)
      · go_simp
      intro x hx
      refine eff_up hx ?_ (HFL.out x) ?_
      · go_simp
      rintro e w3 ⟨g, F, rfl, ⟨hF, hF2⟩, hb, hcF⟩
      refine ⟨_, rfl, hb, fun hw => ?_⟩
      apply ord_norm
      · go_simp; rfl
      have D3 := hid hw
      have HCF := hid hcF
      have HFB := hid hF
      have f1 : ¬ 9223372036854775807 < 6 + F.size := by omega
      have f2 : ¬ 9223372036854775807 < 6 + F.size + 1 := by omega
      clear hw hb hx hF hcF
      iterate 1
        (apply ord_pure (ho := rfl)
         · go_simp
         · intro x hx; go_simp; rfl
         apply ord_norm
         · go_simp; rfl)
      iterate 1
        (apply ord_pure (ho := rfl)
         · go_simp
         · intro x hx; have c4 := HCF.out x hx; go_simp; rfl
         apply ord_norm
         · go_simp; rfl)
      iterate 2
        (apply ord_pure (ho := rfl)
         · go_simp
         · intro x hx; go_simp; rfl
         apply ord_norm
         · go_simp; rfl)
      apply ord_eff (ho := rfl)
      · go_simp
      intro x hx
      refine eff_up hx ?_ (HDA.out x) ?_
      · go_simp
      rintro e w4 ⟨I, rfl, ⟨hI, hI2⟩, hb⟩
      refine ⟨_, rfl, hb, fun hw => ?_⟩
      apply ord_norm
      · go_simp; rfl
      have D4 := hid (below_step D3.out hw)
      have HIB := hid hI
      have f3 : ¬ 9223372036854775807 < 6 + F.size + 1 + I.size := by omega
      have f4 : ¬ 9223372036854775807 < 6 + F.size + 1 + I.size + 1 := by omega
      clear hw hb hx hI
      iterate 2
        (apply ord_pure (ho := rfl)
         · go_simp
         · intro x hx; go_simp; rfl
         apply ord_norm
         · go_simp; rfl)
      apply ord_eff (ho := rfl)
      · go_simp
      intro x hx
      refine eff_up hx ?_ (HDB.out x) ?_
      · go_simp
      rintro e w5 ⟨J, rfl, ⟨hJ, hJ2⟩, hb⟩
      refine ⟨_, rfl, hb, fun hw => ?_⟩
      apply ord_norm
      · go_simp; rfl
      have D5 := hid (below_step D4.out hw)
      have HJB := hid hJ
      have f5 : ¬ 9223372036854775807 < 6 + F.size + 1 + I.size + 1 + J.size := by omega
      clear hw hb hx hJ
      iterate 1
        (apply ord_pure (ho := rfl)
         · go_simp
         · intro x hx; go_simp; rfl
         apply ord_norm
         · go_simp; rfl)
      apply ord_eff (ho := rfl)
      · go_simp
      intro x hx
      refine eff_same (by go_simp) hx (fun _ h => h) (HSA.out x) ?_
      apply ord_norm
      · go_simp; rfl
      clear hx
      iterate 1
        (apply ord_pure (ho := rfl)
         · go_simp
         · intro x hx; go_simp; rfl
         apply ord_norm
         · go_simp; rfl)
      iterate 2
        (apply ord_pure (ho := rfl)
         · go_simp
         · intro x hx; go_simp; rfl
         apply ord_norm
         · go_simp; rfl)
      iterate 1
        (apply ord_pure (ho := rfl)
         · go_simp
         · intro x hx; obtain ⟨c1, c2, c3⟩ := HM.out x (below_step D5.out hx); go_simp; rfl
         apply ord_norm
         · go_simp; rfl)
      apply ord_eff (ho := rfl)
      · go_simp
      intro x hx
      refine eff_same (by go_simp) hx (fun _ h => h) (HSB.out x) ?_
      apply ord_norm
      · go_simp; rfl
      clear hx
      iterate 2
        (apply ord_pure (ho := rfl)
         · go_simp
         · intro x hx; go_simp; rfl
         apply ord_norm
         · go_simp; rfl)
      iterate 4
        (apply ord_skip (ho := rfl)
         · go_simp
         apply ord_norm
         · go_simp; rfl)
      apply ord_eskip (ho := rfl)
      · go_simp
      apply ord_norm
      · go_simp; rfl
      iterate 3
        (apply ord_pure (ho := rfl)
         · go_simp
         · intro x hx; go_simp; rfl
         apply ord_norm
         · go_simp; rfl)
      apply ord_nil
      intro y hy
      have HY := hid hy
      clear hy
      go_wp2_with fail
      go_ret2
      refine ⟨⟨_, by rw [HRES.out]; first | rfl | simp, ?_⟩, below_step HB.out (below_step D5.out HY.out)⟩
      intro t ht
      rw [HRES.out] at ht
      first | cases ht | simp at ht
    | true =>
      go_enter Tryd.func16, Tryd.ntmps16
      go_wp2_with fail
      refine wp_region_ord (.pure 1 (.pure 2 (.pure 7 (.pure 8 (.pure 9 (.pure 13 (.pure 14 (.pure 15 (.pure 18 (.pure 19 (.pure 20 (.eff 0 (.pure 3 (.pure 4 (.pure 5 (.pure 6 (.eff 10 (.pure 11 (.pure 12 (.eff 16 (.pure 17 (.eff 21 (.pure 22 (.pure 23 (.pure 24 (.pure 25 (.eff 26 (.pure 27 (.pure 28 (.pure 29 (.pure 30 (.pure 31 (.pure 32 (.eff 33 (.pure 34 (.pure 35 (.pure 36 .nil))))))))))))))))))))))))))))))))))))) (Up (w.alloc (.cells cs 29))) (Up (w.alloc (.cells cs 29))) (by kernel_rfl) (by kernel_rfl) D0.out (fun _ h => h) ?_
      iterate 11
        (apply ord_pure (ho := rfl)
         · go_simp
         · intro x hx; obtain ⟨c1, c2, c3⟩ := HM.out x hx; go_simp; rfl
         apply ord_norm
         · go_simp; rfl)
      apply ord_eff (ho := rfl)
      · go_simp
      intro x hx
      refine eff_up hx ?_ (HFL.out x) ?_
      · go_simp
      rintro e w3 ⟨g, F, rfl, ⟨hF, hF2⟩, hb, hcF⟩
      refine ⟨_, rfl, hb, fun hw => ?_⟩
      apply ord_norm
      · go_simp; rfl
      have D3 := hid hw
      have HCF := hid hcF
      have HFB := hid hF
      have f1 : ¬ 9223372036854775807 < 6 + F.size := by omega
      have f2 : ¬ 9223372036854775807 < 6 + F.size + 1 := by omega
      clear hw hb hx hF hcF
      iterate 1
        (apply ord_pure (ho := rfl)
         · go_simp
         · intro x hx; go_simp; rfl
         apply ord_norm
         · go_simp; rfl)
      iterate 1
        (apply ord_pure (ho := rfl)
         · go_simp
         · intro x hx; have c4 := HCF.out x hx; go_simp; rfl
         apply ord_norm
         · go_simp; rfl)
      iterate 2
        (apply ord_pure (ho := rfl)
         · go_simp
         · intro x hx; go_simp; rfl
         apply ord_norm
         · go_simp; rfl)
      apply ord_eff (ho := rfl)
      · go_simp
      intro x hx
      refine eff_up hx ?_ (HDA.out x) ?_
      · go_simp
      rintro e w4 ⟨I, rfl, ⟨hI, hI2⟩, hb⟩
      refine ⟨_, rfl, hb, fun hw => ?_⟩
      apply ord_norm
      · go_simp; rfl
      have D4 := hid (below_step D3.out hw)
      have HIB := hid hI
      have f3 : ¬ 9223372036854775807 < 6 + F.size + 1 + I.size := by omega
      have f4 : ¬ 9223372036854775807 < 6 + F.size + 1 + I.size + 1 := by omega
      clear hw hb hx hI
      iterate 2
        (apply ord_pure (ho := rfl)
         · go_simp
         · intro x hx; go_simp; rfl
         apply ord_norm
         · go_simp; rfl)
      apply ord_eff (ho := rfl)
      · go_simp
      intro x hx
      refine eff_up hx ?_ (HDB.out x) ?_
      · go_simp
      rintro e w5 ⟨J, rfl, ⟨hJ, hJ2⟩, hb⟩
      refine ⟨_, rfl, hb, fun hw => ?_⟩
      apply ord_norm
      · go_simp; rfl
      have D5 := hid (below_step D4.out hw)
      have HJB := hid hJ
      have f5 : ¬ 9223372036854775807 < 6 + F.size + 1 + I.size + 1 + J.size := by omega
      clear hw hb hx hJ
      iterate 1
        (apply ord_pure (ho := rfl)
         · go_simp
         · intro x hx; go_simp; rfl
         apply ord_norm
         · go_simp; rfl)
      apply ord_eff (ho := rfl)
      · go_simp
      intro x hx
      refine eff_same (by go_simp) hx (fun _ h => h) (HSA.out x) ?_
      apply ord_norm
      · go_simp; rfl
      clear hx
      iterate 1
        (apply ord_pure (ho := rfl)
         · go_simp
         · intro x hx; go_simp; rfl
         apply ord_norm
         · go_simp; rfl)
      iterate 2
        (apply ord_pure (ho := rfl)
         · go_simp
         · intro x hx; go_simp; rfl
         apply ord_norm
         · go_simp; rfl)
      iterate 1
        (apply ord_pure (ho := rfl)
         · go_simp
         · intro x hx; obtain ⟨c1, c2, c3⟩ := HM.out x (below_step D5.out hx); go_simp; rfl
         apply ord_norm
         · go_simp; rfl)
      apply ord_eff (ho := rfl)
      · go_simp
      intro x hx
      refine eff_same (by go_simp) hx (fun _ h => h) (HSB.out x) ?_
      apply ord_norm
      · go_simp; rfl
      clear hx
      iterate 2
        (apply ord_pure (ho := rfl)
         · go_simp
         · intro x hx; go_simp; rfl
         apply ord_norm
         · go_simp; rfl)
      apply ord_pure (v := .agg cs) (ho := rfl)
      · go_simp
      · exact fun x hx => exec_ld (.tmp 1) 29 rfl rfl (HLD.out x (below_step D5.out hx))
      apply ord_norm
      · go_simp; rfl
      iterate 1
        (apply ord_pure (ho := rfl)
         · go_simp
         · intro x hx; go_simp; rfl
         apply ord_norm
         · go_simp; rfl)
      apply ord_pure (v := .agg #[.int .i64 ((k : Int) + 1), .int .i64 n, .int .i64 m]) (ho := rfl)
      · go_simp
      · exact fun x hx => exec_ld (.tmp 132) 27 rfl rfl (HFT.out x (below_step D5.out hx))
      apply ord_norm
      · go_simp; rfl
      iterate 1
        (apply ord_pure (ho := rfl)
         · go_simp
         · intro x hx; go_simp; rfl
         apply ord_norm
         · go_simp; rfl)
      apply ord_eff (ho := rfl)
      · go_simp
      intro x hx
      refine eff_up hx ?_ (HSAME.out x (below_step D5.out hx)) ?_
      · go_simp
      rintro e w6 ⟨rfl, hb⟩
      refine ⟨_, rfl, hb, fun hw => ?_⟩
      apply ord_norm
      · go_simp; rfl
      have D6 := hid (below_step D5.out hw)
      clear hw hb hx
      iterate 3
        (apply ord_pure (ho := rfl)
         · go_simp
         · intro x hx; go_simp; rfl
         apply ord_norm
         · go_simp; rfl)
      apply ord_nil
      intro y hy
      have HY := hid hy
      clear hy
      go_wp2_with fail
      go_ret2
      refine ⟨⟨_, by rw [HRES.out]; cases q <;> rfl, ?_⟩, below_step HB.out (below_step D6.out HY.out)⟩
      intro t ht
      rw [HRES.out] at ht
      cases q with
      | false => cases ht
      | true =>
        injection ht with ht
        rw [← ht]
        simp only [bs_app, HFB.out, HIB.out, HJB.out, List.append_assoc]
        rfl
end
end Go.Proofs.YtimnhheagdhpgaaDoor
