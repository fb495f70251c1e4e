/- The specification's Line: all acts but the command. -/
import Derived.Test.YtimnhheagdhpgaaDoorScsE
import Derived.Test.YtimnhheagdhpgaaDoorScsG
set_option linter.unusedVariables false
set_option linter.unusedSimpArgs false
namespace Go.Proofs.YtimnhheagdhpgaaDoor
open Go.RowKit Go.Proofs.Num
open Scr (Str bs numV numsV small svcV fltV nameV bytesV oneV fileV faultV orderV tailV flts parseL parseV b8 textV textL svcs svcN fltN ixOf valC digR pairR bytesR rnum magR splitW hexC hexB hexV lineV lineL)
theorem exec_ld {o : Oper} {a : Act} {w : World} {b j : Nat} (x : Operand) (t : TypeId) (ho : o.op = .load t x) (hx : a.eval x = .pointer (some ⟨b, j, none⟩)) {v : Value}
    (hld : (loadVar t ⟨b, j, none⟩).run Tryd.prog w = .ok v w) : (execOp a.eval o).run Tryd.prog w = .ok (.value v) w := by
  unfold execOp
  simp only [ho, hx]
  have h1 : (Instr.loadAt t (.pointer (some ⟨b, j, none⟩))).run Tryd.prog w = .ok v w := by
    simp only [Instr.loadAt, Instr.sureAddr]
    simp [Sem.run_bind, asAddr, hld, Result.andThen]
  simp [Sem.run_bind, h1, Result.andThen]
/-- What the specification's Line takes. -/
structure LineOk (a : Scr.Act) : Prop where
  num : i64 a.num
  fat : i64 a.fat
  fbit : i64 a.fbit
  args : ∀ n ∈ a.args, i64 n
  few : a.args.length < 1000000
  name : a.name.length < 1000000
  data : a.data.length < 100000000
  cdata : a.cdata.length < 100000000
def lineE (w w' : World) (o : Option Str) (e : Ending) : Prop := (∃ X, e = .returned (.tuple #[.string X, .bool o.isSome]) ∧ ∀ t, o = some t → bs X = t) ∧ Below w.heap.size w w'
theorem act_nil (a : Scr.Act) (h1 : a.data = []) (h2 : a.args = []) (h3 : a.cdata = []) (w : World) : ActV w a (.slice none 0 0) (.slice none 0 0) (.slice none 0 0) := ⟨by rw [h1]; exact rd_nil w, by rw [h2]; exact rd_nil w, by rw [h3]; exact rd_nil w⟩
theorem line1 (a : Scr.Act) (h : a.kind = 1) : lineV a = if small a.num = true ∧ a = { Scr.act0 with kind := 1, num := a.num } then some (b8 "tick" ++ 32 :: Lib.itoa a.num) else none := by
  unfold lineV lineL; rw [if_pos h]; split <;> rfl
theorem line5 (a : Scr.Act) (h : a.kind = 5) : lineV a = if small a.num = true ∧ a = { Scr.act0 with kind := 5, num := a.num } then some (b8 "hold" ++ 32 :: Lib.itoa a.num) else none := by
  unfold lineV lineL; rw [h, if_neg (by decide), if_neg (by decide), if_neg (by decide), if_neg (by decide), if_pos rfl]; split <;> rfl
theorem line3 (a : Scr.Act) (h : a.kind = 3) : lineV a = if small a.num = true ∧ nameV a.name = true ∧ a.data.length ≤ 65536 ∧ a = { Scr.act0 with kind := 3, num := a.num, name := a.name, data := a.data } then some (b8 "file" ++ 32 :: (Lib.itoa a.num ++ 32 :: (a.name ++ 32 :: hexV a.data))) else none := by
  unfold lineV lineL; rw [h, if_neg (by decide), if_neg (by decide), if_pos rfl]; split <;> rfl
theorem line4 (a : Scr.Act) (h : a.kind = 4) : lineV a = if (1 ≤ a.fk ∧ a.fk ≤ 7) ∧ small a.fat = true ∧ small a.fbit = true ∧ a = { Scr.act0 with kind := 4, fk := a.fk, fat := a.fat, fbit := a.fbit } then some (b8 "fault" ++ 32 :: (fltN a.fk ++ 32 :: (Lib.itoa a.fat ++ 32 :: Lib.itoa a.fbit))) else none := by
  unfold lineV lineL; rw [h, if_neg (by decide), if_neg (by decide), if_neg (by decide), if_pos rfl]; split <;> rfl
theorem line0 (a : Scr.Act) (h1 : a.kind ≠ 1) (h2 : a.kind ≠ 2) (h3 : a.kind ≠ 3) (h4 : a.kind ≠ 4) (h5 : a.kind ≠ 5) : lineV a = none := by
  unfold lineV lineL; rw [if_neg h1, if_neg h2, if_neg h3, if_neg h4, if_neg h5]; rfl
section
variable {w : World}
theorem cRFaultsK (k : Nat) (h8 : k < 7) : Calls Tryd.prog 32 #[] w fun e w' => ∃ (g : Nat) (F : ByteArray), e = .returned (.slice (some ⟨g, 0, none⟩) 7 7) ∧ (bs F = Scr.fltN ((k : Int) + 1) ∧ F.size ≤ 10) ∧ Below w.heap.size w w' ∧ ∀ x, Below w'.heap.size w' x → x.cell? ⟨g, k, none⟩ = some (.string F) := by
  refine (cRFaults).mono ?_
  rintro e w' ⟨rfl, hn⟩
  have hf : flts[k]? = some (fltN ((k : Int) + 1)) ∧ (fltN ((k : Int) + 1)).length ≤ 10 := by
    have : ∀ i : Fin 7, flts[i.val]? = some (fltN ((i.val : Int) + 1)) ∧ (fltN ((i.val : Int) + 1)).length ≤ 10 := by decide +kernel
    exact this ⟨k, h8⟩
  obtain ⟨f1, f2⟩ := hf
  refine ⟨w.heap.size, ⟨(fltN ((k : Int) + 1)).toArray⟩, rfl, ⟨rfl, by rw [Scr.bs_size]; exact f2⟩, hn.below, fun x hx => ?_⟩
  refine cell_below hx ?_
  exact Sts.rowCell (show Sts w [rowP 9 1 (.slice (some ⟨w.heap.size, 0, none⟩) 7 7) 7 (strsV flts)] w' from Sts.new stab0 (Sts.nil w) hn) k h8 (.string ⟨(fltN ((k : Int) + 1)).toArray⟩) (by rw [show strsV flts = flts.map strV from rfl, List.getElem?_map, f1]; rfl)
set_option maxRecDepth 100000 in
set_option maxHeartbeats 8000000 in
theorem cLine1 (a : Scr.Act) (dv av cv : Value) (hk : a.kind = 1) (hO : LineOk a) (hV : ActV w a dv av cv) : Calls Tryd.prog 16 #[.agg (actC a dv av cv)] w fun e w' => lineE w w' (lineV a) e := by
  rw [line1 a hk]
  have HB0 := (Sts.nil w).alloc stab0 (.cells (actC a dv av cv) 29)
  have k0 := (Sts.actM HB0).c0
  rw [hk] at k0
  have HMM := hid (show ∀ x, Up (w.alloc (.cells (actC a dv av cv) 29)) x → ActM x w.heap.size a dv av cv from fun x hx => (Sts.actM HB0).below hx)
  have HLD := hid (show ∀ x, Up (w.alloc (.cells (actC a dv av cv) 29)) x → (loadVar 29 ⟨w.heap.size, 0, none⟩).run Tryd.prog x = .ok (.agg (actC a dv av cv)) x from fun x hx => ldAct rfl (HB0.quiet (stab1 (blkP_stable _ _)) hx))
  have D0 := hid ((Below.refl (w.alloc (.cells (actC a dv av cv) 29)).heap.size (w.alloc (.cells (actC a dv av cv) 29))).drew)
  have HB := hid HB0.below
  have HV := hid hV
  clear HB0 hV
  have HSAME := hid (show ∀ x, Up (w.alloc (.cells (actC a dv av cv) 29)) x → Calls Tryd.prog 23 #[.agg (actC a dv av cv), .agg #[.int .i64 1, .int .i64 a.num, .string ⟨#[]⟩, (.slice none 0 0), .int .i64 0, .int .i64 0, .int .i64 0, (.slice none 0 0), (.slice none 0 0), .int .i64 0, .int .i64 0, .int .i64 0]] x fun e w' => e = .returned (.bool (decide (a = ({ Scr.act0 with kind := 1, num := a.num } : Scr.Act)))) ∧ Below x.heap.size x w' from fun x hx => cSame58 (w := x) a ({ Scr.act0 with kind := 1, num := a.num } : Scr.Act) dv av cv (.slice none 0 0) (.slice none 0 0) (.slice none 0 0) (HV.out.below (below_step HB.out hx)) (act_nil _ rfl rfl rfl x) hO.few (show (0 : Nat) < 1000000 by decide))
  have HM := hid (show ∀ x, Up (w.alloc (.cells (actC a dv av cv) 29)) x → x.cell? ⟨w.heap.size, 1, none⟩ = some (.int .i64 a.num) from fun x hx => (HMM.out x hx).c1)
  have HDG := hid (fun x : World => cDigits (w := x) a.num hO.num)
  have HSM := hid (fun x : World => cSmall (w := x) a.num)
  obtain ⟨cs, hcs⟩ : ∃ cs, cs = actC a dv av cv := ⟨_, rfl⟩
  rw [← hcs] at k0 HMM HM HLD D0 HB HSAME ⊢
  clear hcs
  obtain ⟨sm, hsm⟩ : ∃ sm, sm = small a.num := ⟨_, rfl⟩
  obtain ⟨q, hq⟩ : ∃ q, q = decide (a = ({ Scr.act0 with kind := 1, num := a.num } : Scr.Act)) := ⟨_, rfl⟩
  obtain ⟨res, hres⟩ : ∃ res, res = (if small a.num = true ∧ a = ({ Scr.act0 with kind := 1, num := a.num } : Scr.Act) then some (b8 "tick" ++ 32 :: Lib.itoa a.num) else none : Option Str) := ⟨_, rfl⟩
  rw [← hres]
  have hres2 : res = if (sm && q) = true then some (b8 "tick" ++ 32 :: Lib.itoa a.num) else none := by rw [hres, hsm, hq]; simp
  rw [← hsm] at HSM
  rw [← hq] at HSAME
  have HRES := hid hres2
  clear hres hres2 hsm hq HMM hO hk
  obtain ⟨n, hn⟩ : ∃ n, n = a.num := ⟨_, rfl⟩
  rw [← hn] at HDG HSM HSAME HM HRES
  clear hn
  cases sm with
  | true =>
    go_enter Tryd.func16, Tryd.ntmps16
    go_wp2_with fail
    refine wp_region_ord (.pure 0 (.pure 1 (.pure 4 (.pure 5 (.eff 2 (.pure 3 (.eff 6 (.pure 7 (.pure 8 (.pure 9 (.pure 10 (.pure 11 (.eff 12 (.pure 13 (.pure 14 (.pure 15 .nil)))))))))))))))) (Up (w.alloc (.cells cs 29))) (Up (w.alloc (.cells cs 29))) (by kernel_rfl) (by kernel_rfl) D0.out (fun _ h => h) ?_
    iterate 4
      (apply ord_pure (ho := rfl)
       · go_simp
       · intro x hx; have c1 := HM.out x hx; go_simp; rfl
       apply ord_norm
       · go_simp; rfl)
    apply ord_eff (ho := rfl)
    · go_simp
    intro x hx
    refine eff_up hx ?_ (HDG.out x) ?_
    · go_simp
    rintro e w3 ⟨I, rfl, ⟨hI, hI2⟩, hb⟩
    refine ⟨_, rfl, hb, fun hw => ?_⟩
    apply ord_norm
    · go_simp; rfl
    have D3 := hid hw
    have HIB := hid hI
    have f1 : ¬ 9223372036854775807 < 5 + I.size := by omega
    clear hw hb hx hI
    iterate 1
      (apply ord_pure (ho := rfl)
       · go_simp
       · intro x hx; go_simp; rfl
       apply ord_norm
       · go_simp; rfl)
    apply ord_eff (ho := rfl)
    · go_simp
    intro x hx
    refine eff_same (by go_simp) hx (fun _ h => h) (HSM.out x) ?_
    apply ord_norm
    · go_simp; rfl
    clear hx
    iterate 1
      (apply ord_pure (ho := rfl)
       · go_simp
       · intro x hx; go_simp; rfl
       apply ord_norm
       · go_simp; rfl)
    apply ord_pure (v := .agg cs) (ho := rfl)
    · go_simp
    · exact fun x hx => exec_ld (.tmp 1) 29 rfl rfl (HLD.out x (below_step D3.out hx))
    apply ord_norm
    · go_simp; rfl
    iterate 1
      (apply ord_pure (ho := rfl)
       · go_simp
       · intro x hx; go_simp; rfl
       apply ord_norm
       · go_simp; rfl)
    iterate 1
      (apply ord_pure (ho := rfl)
       · go_simp
       · intro x hx; have c1 := HM.out x (below_step D3.out hx); go_simp; rfl
       apply ord_norm
       · go_simp; rfl)
    iterate 1
      (apply ord_pure (ho := rfl)
       · go_simp
       · intro x hx; go_simp; rfl
       apply ord_norm
       · go_simp; rfl)
    apply ord_eff (ho := rfl)
    · go_simp
    intro x hx
    refine eff_up hx ?_ (HSAME.out x (below_step D3.out hx)) ?_
    · go_simp
    rintro e w5 ⟨rfl, hb⟩
    refine ⟨_, rfl, hb, fun hw => ?_⟩
    apply ord_norm
    · go_simp; rfl
    have D5 := hid (below_step D3.out hw)
    clear hw hb hx
    iterate 3
      (apply ord_pure (ho := rfl)
       · go_simp
       · intro x hx; go_simp; rfl
       apply ord_norm
       · go_simp; rfl)
    apply ord_nil
    intro y hy
    have HY := hid hy
    clear hy
    go_wp2_with fail
    go_ret2
    refine ⟨⟨_, by rw [HRES.out]; cases q <;> rfl, ?_⟩, below_step HB.out (below_step D5.out HY.out)⟩
    intro t ht
    rw [HRES.out] at ht
    cases q with
    | false => cases ht
    | true =>
      injection ht with ht
      rw [← ht, bs_app, HIB.out]
      rfl
  | false =>
    go_enter Tryd.func16, Tryd.ntmps16
    go_wp2_with fail
    refine wp_region_ord (.pure 0 (.pure 1 (.pure 4 (.pure 5 (.eff 2 (.pure 3 (.eff 6 (.pure 7 (.pure 8 (.pure 9 (.pure 10 (.pure 11 (.eff 12 (.pure 13 (.pure 14 (.pure 15 .nil)))))))))))))))) (Up (w.alloc (.cells cs 29))) (Up (w.alloc (.cells cs 29))) (by kernel_rfl) (by kernel_rfl) D0.out (fun _ h => h) ?_
    iterate 4
      (apply ord_pure (ho := rfl)
       · go_simp
       · intro x hx; have c1 := HM.out x hx; go_simp; rfl
       apply ord_norm
       · go_simp; rfl)
    apply ord_eff (ho := rfl)
    · go_simp
    intro x hx
    refine eff_up hx ?_ (HDG.out x) ?_
    · go_simp
    rintro e w3 ⟨I, rfl, ⟨hI, hI2⟩, hb⟩
    refine ⟨_, rfl, hb, fun hw => ?_⟩
    apply ord_norm
    · go_simp; rfl
    have D3 := hid hw
    have HIB := hid hI
    have f1 : ¬ 9223372036854775807 < 5 + I.size := by omega
    clear hw hb hx hI
    iterate 1
      (apply ord_pure (ho := rfl)
       · go_simp
       · intro x hx; go_simp; rfl
       apply ord_norm
       · go_simp; rfl)
    apply ord_eff (ho := rfl)
    · go_simp
    intro x hx
    refine eff_same (by go_simp) hx (fun _ h => h) (HSM.out x) ?_
    apply ord_norm
    · go_simp; rfl
    clear hx
    iterate 1
      (apply ord_pure (ho := rfl)
       · go_simp
       · intro x hx; go_simp; rfl
       apply ord_norm
       · go_simp; rfl)
    iterate 4
      (apply ord_skip (ho := rfl)
       · go_simp
       apply ord_norm
       · go_simp; rfl)
    apply ord_eskip (ho := rfl)
    · go_simp
    apply ord_norm
    · go_simp; rfl
    iterate 3
      (apply ord_pure (ho := rfl)
       · go_simp
       · intro x hx; go_simp; rfl
       apply ord_norm
       · go_simp; rfl)
    apply ord_nil
    intro y hy
    have HY := hid hy
    clear hy
    go_wp2_with fail
    go_ret2
    refine ⟨⟨_, by rw [HRES.out]; rfl, ?_⟩, below_step HB.out (below_step D3.out HY.out)⟩
    intro t ht
    rw [HRES.out] at ht
    cases ht
set_option maxRecDepth 100000 in
set_option maxHeartbeats 8000000 in
theorem cLine5 (a : Scr.Act) (dv av cv : Value) (hk : a.kind = 5) (hO : LineOk a) (hV : ActV w a dv av cv) : Calls Tryd.prog 16 #[.agg (actC a dv av cv)] w fun e w' => lineE w w' (lineV a) e := by
  rw [line5 a hk]
  have HB0 := (Sts.nil w).alloc stab0 (.cells (actC a dv av cv) 29)
  have k0 := (Sts.actM HB0).c0
  rw [hk] at k0
  have HMM := hid (show ∀ x, Up (w.alloc (.cells (actC a dv av cv) 29)) x → ActM x w.heap.size a dv av cv from fun x hx => (Sts.actM HB0).below hx)
  have HLD := hid (show ∀ x, Up (w.alloc (.cells (actC a dv av cv) 29)) x → (loadVar 29 ⟨w.heap.size, 0, none⟩).run Tryd.prog x = .ok (.agg (actC a dv av cv)) x from fun x hx => ldAct rfl (HB0.quiet (stab1 (blkP_stable _ _)) hx))
  have D0 := hid ((Below.refl (w.alloc (.cells (actC a dv av cv) 29)).heap.size (w.alloc (.cells (actC a dv av cv) 29))).drew)
  have HB := hid HB0.below
  have HV := hid hV
  clear HB0 hV
  have HSAME := hid (show ∀ x, Up (w.alloc (.cells (actC a dv av cv) 29)) x → Calls Tryd.prog 23 #[.agg (actC a dv av cv), .agg #[.int .i64 5, .int .i64 a.num, .string ⟨#[]⟩, (.slice none 0 0), .int .i64 0, .int .i64 0, .int .i64 0, (.slice none 0 0), (.slice none 0 0), .int .i64 0, .int .i64 0, .int .i64 0]] x fun e w' => e = .returned (.bool (decide (a = ({ Scr.act0 with kind := 5, num := a.num } : Scr.Act)))) ∧ Below x.heap.size x w' from fun x hx => cSame58 (w := x) a ({ Scr.act0 with kind := 5, num := a.num } : Scr.Act) dv av cv (.slice none 0 0) (.slice none 0 0) (.slice none 0 0) (HV.out.below (below_step HB.out hx)) (act_nil _ rfl rfl rfl x) hO.few (show (0 : Nat) < 1000000 by decide))
  have HM := hid (show ∀ x, Up (w.alloc (.cells (actC a dv av cv) 29)) x → x.cell? ⟨w.heap.size, 1, none⟩ = some (.int .i64 a.num) from fun x hx => (HMM.out x hx).c1)
  have HDG := hid (fun x : World => cDigits (w := x) a.num hO.num)
  have HSM := hid (fun x : World => cSmall (w := x) a.num)
  obtain ⟨cs, hcs⟩ : ∃ cs, cs = actC a dv av cv := ⟨_, rfl⟩
  rw [← hcs] at k0 HMM HM HLD D0 HB HSAME ⊢
  clear hcs
  obtain ⟨sm, hsm⟩ : ∃ sm, sm = small a.num := ⟨_, rfl⟩
  obtain ⟨q, hq⟩ : ∃ q, q = decide (a = ({ Scr.act0 with kind := 5, num := a.num } : Scr.Act)) := ⟨_, rfl⟩
  obtain ⟨res, hres⟩ : ∃ res, res = (if small a.num = true ∧ a = ({ Scr.act0 with kind := 5, num := a.num } : Scr.Act) then some (b8 "hold" ++ 32 :: Lib.itoa a.num) else none : Option Str) := ⟨_, rfl⟩
  rw [← hres]
  have hres2 : res = if (sm && q) = true then some (b8 "hold" ++ 32 :: Lib.itoa a.num) else none := by rw [hres, hsm, hq]; simp
  rw [← hsm] at HSM
  rw [← hq] at HSAME
  have HRES := hid hres2
  clear hres hres2 hsm hq HMM hO hk
  obtain ⟨n, hn⟩ : ∃ n, n = a.num := ⟨_, rfl⟩
  rw [← hn] at HDG HSM HSAME HM HRES
  clear hn
  cases sm with
  | true =>
    go_enter Tryd.func16, Tryd.ntmps16
    go_wp2_with fail
    refine wp_region_ord (.pure 0 (.pure 1 (.pure 4 (.pure 5 (.eff 2 (.pure 3 (.eff 6 (.pure 7 (.pure 8 (.pure 9 (.pure 10 (.pure 11 (.eff 12 (.pure 13 (.pure 14 (.pure 15 .nil)))))))))))))))) (Up (w.alloc (.cells cs 29))) (Up (w.alloc (.cells cs 29))) (by kernel_rfl) (by kernel_rfl) D0.out (fun _ h => h) ?_
    iterate 4
      (apply ord_pure (ho := rfl)
       · go_simp
       · intro x hx; have c1 := HM.out x hx; go_simp; rfl
       apply ord_norm
       · go_simp; rfl)
    apply ord_eff (ho := rfl)
    · go_simp
    intro x hx
    refine eff_up hx ?_ (HDG.out x) ?_
    · go_simp
    rintro e w3 ⟨I, rfl, ⟨hI, hI2⟩, hb⟩
    refine ⟨_, rfl, hb, fun hw => ?_⟩
    apply ord_norm
    · go_simp; rfl
    have D3 := hid hw
    have HIB := hid hI
    have f1 : ¬ 9223372036854775807 < 5 + I.size := by omega
    clear hw hb hx hI
    iterate 1
      (apply ord_pure (ho := rfl)
       · go_simp
       · intro x hx; go_simp; rfl
       apply ord_norm
       · go_simp; rfl)
    apply ord_eff (ho := rfl)
    · go_simp
    intro x hx
    refine eff_same (by go_simp) hx (fun _ h => h) (HSM.out x) ?_
    apply ord_norm
    · go_simp; rfl
    clear hx
    iterate 1
      (apply ord_pure (ho := rfl)
       · go_simp
       · intro x hx; go_simp; rfl
       apply ord_norm
       · go_simp; rfl)
    apply ord_pure (v := .agg cs) (ho := rfl)
    · go_simp
    · exact fun x hx => exec_ld (.tmp 1) 29 rfl rfl (HLD.out x (below_step D3.out hx))
    apply ord_norm
    · go_simp; rfl
    iterate 1
      (apply ord_pure (ho := rfl)
       · go_simp
       · intro x hx; go_simp; rfl
       apply ord_norm
       · go_simp; rfl)
    iterate 1
      (apply ord_pure (ho := rfl)
       · go_simp
       · intro x hx; have c1 := HM.out x (below_step D3.out hx); go_simp; rfl
       apply ord_norm
       · go_simp; rfl)
    iterate 1
      (apply ord_pure (ho := rfl)
       · go_simp
       · intro x hx; go_simp; rfl
       apply ord_norm
       · go_simp; rfl)
    apply ord_eff (ho := rfl)
    · go_simp
    intro x hx
    refine eff_up hx ?_ (HSAME.out x (below_step D3.out hx)) ?_
    · go_simp
    rintro e w5 ⟨rfl, hb⟩
    refine ⟨_, rfl, hb, fun hw => ?_⟩
    apply ord_norm
    · go_simp; rfl
    have D5 := hid (below_step D3.out hw)
    clear hw hb hx
    iterate 3
      (apply ord_pure (ho := rfl)
       · go_simp
       · intro x hx; go_simp; rfl
       apply ord_norm
       · go_simp; rfl)
    apply ord_nil
    intro y hy
    have HY := hid hy
    clear hy
    go_wp2_with fail
    go_ret2
    refine ⟨⟨_, by rw [HRES.out]; cases q <;> rfl, ?_⟩, below_step HB.out (below_step D5.out HY.out)⟩
    intro t ht
    rw [HRES.out] at ht
    cases q with
    | false => cases ht
    | true =>
      injection ht with ht
      rw [← ht, bs_app, HIB.out]
      rfl
  | false =>
    go_enter Tryd.func16, Tryd.ntmps16
    go_wp2_with fail
    refine wp_region_ord (.pure 0 (.pure 1 (.pure 4 (.pure 5 (.eff 2 (.pure 3 (.eff 6 (.pure 7 (.pure 8 (.pure 9 (.pure 10 (.pure 11 (.eff 12 (.pure 13 (.pure 14 (.pure 15 .nil)))))))))))))))) (Up (w.alloc (.cells cs 29))) (Up (w.alloc (.cells cs 29))) (by kernel_rfl) (by kernel_rfl) D0.out (fun _ h => h) ?_
    iterate 4
      (apply ord_pure (ho := rfl)
       · go_simp
       · intro x hx; have c1 := HM.out x hx; go_simp; rfl
       apply ord_norm
       · go_simp; rfl)
    apply ord_eff (ho := rfl)
    · go_simp
    intro x hx
    refine eff_up hx ?_ (HDG.out x) ?_
    · go_simp
    rintro e w3 ⟨I, rfl, ⟨hI, hI2⟩, hb⟩
    refine ⟨_, rfl, hb, fun hw => ?_⟩
    apply ord_norm
    · go_simp; rfl
    have D3 := hid hw
    have HIB := hid hI
    have f1 : ¬ 9223372036854775807 < 5 + I.size := by omega
    clear hw hb hx hI
    iterate 1
      (apply ord_pure (ho := rfl)
       · go_simp
       · intro x hx; go_simp; rfl
       apply ord_norm
       · go_simp; rfl)
    apply ord_eff (ho := rfl)
    · go_simp
    intro x hx
    refine eff_same (by go_simp) hx (fun _ h => h) (HSM.out x) ?_
    apply ord_norm
    · go_simp; rfl
    clear hx
    iterate 1
      (apply ord_pure (ho := rfl)
       · go_simp
       · intro x hx; go_simp; rfl
       apply ord_norm
       · go_simp; rfl)
    iterate 4
      (apply ord_skip (ho := rfl)
       · go_simp
       apply ord_norm
       · go_simp; rfl)
    apply ord_eskip (ho := rfl)
    · go_simp
    apply ord_norm
    · go_simp; rfl
    iterate 3
      (apply ord_pure (ho := rfl)
       · go_simp
       · intro x hx; go_simp; rfl
       apply ord_norm
       · go_simp; rfl)
    apply ord_nil
    intro y hy
    have HY := hid hy
    clear hy
    go_wp2_with fail
    go_ret2
    refine ⟨⟨_, by rw [HRES.out]; rfl, ?_⟩, below_step HB.out (below_step D3.out HY.out)⟩
    intro t ht
    rw [HRES.out] at ht
    cases ht
set_option maxRecDepth 100000 in
set_option maxHeartbeats 4000000 in
theorem cLine0 (a : Scr.Act) (dv av cv : Value) (h1 : a.kind ≠ 1) (h2 : a.kind ≠ 2) (h3 : a.kind ≠ 3) (h4 : a.kind ≠ 4) (h5 : a.kind ≠ 5) : Calls Tryd.prog 16 #[.agg (actC a dv av cv)] w fun e w' => lineE w w' (lineV a) e := by
  rw [line0 a h1 h2 h3 h4 h5]
  have HB := hid ((Sts.nil w).alloc stab0 (.cells (actC a dv av cv) 29))
  have k0 := (Sts.actM HB.out).c0
  have e1 : (a.kind == 1) = false := by simp; exact h1
  have e2 : (a.kind == 2) = false := by simp; exact h2
  have e3 : (a.kind == 3) = false := by simp; exact h3
  have e4 : (a.kind == 4) = false := by simp; exact h4
  have e5 : (a.kind == 5) = false := by simp; exact h5
  obtain ⟨cs, hcs⟩ : ∃ cs, cs = actC a dv av cv := ⟨_, rfl⟩
  rw [← hcs] at HB k0 ⊢
  clear hcs
  go_enter Tryd.func16, Tryd.ntmps16
  go_wp2_with fail
  go_ret2
  exact ⟨⟨_, rfl, fun t h => by cases h⟩, HB.out.below⟩
end
end Go.Proofs.YtimnhheagdhpgaaDoor
