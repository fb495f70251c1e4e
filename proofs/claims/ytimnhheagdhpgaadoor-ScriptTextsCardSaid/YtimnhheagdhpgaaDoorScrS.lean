/- Writing an act: a fault, a command. -/
import Derived.Test.YtimnhheagdhpgaaDoorScrR
set_option linter.unusedVariables false
set_option linter.unusedSimpArgs false
namespace Go.Proofs.YtimnhheagdhpgaaDoor
open Go.RowKit Go.Proofs.Num
open Scr (Str bs numV numsV small svcV fltV nameV bytesV oneV fileV faultV orderV tailV flts parseL parseV b8 textV textL)
theorem flt_at (k : Nat) (h1 : 1 ≤ k) (h8 : k < 8) : (([] : Str) :: flts)[k]? = some (Scr.fltN (k : Int)) ∧ (Scr.fltN (k : Int)).length ≤ 10 := by
  have : ∀ i : Fin 7, (([] : Str) :: flts)[i.val + 1]? = some (Scr.fltN ((i.val + 1 : Nat) : Int)) ∧ (Scr.fltN ((i.val + 1 : Nat) : Int)).length ≤ 10 := by decide +kernel
  have e := this ⟨k - 1, by omega⟩
  simp only at e
  rw [show k - 1 + 1 = k by omega] at e
  exact e
section
variable {w : World}
theorem cFaultsK (k : Nat) (h1 : 1 ≤ k) (h8 : k < 8) : Calls Tryd.prog 48 #[] w fun e w' => ∃ (g : Nat) (F : ByteArray), e = .returned (.slice (some ⟨g, 0, none⟩) 8 8) ∧ (bs F = Scr.fltN (k : Int) ∧ F.size ≤ 10) ∧ Below w.heap.size w w' ∧ ∀ x, Below w'.heap.size w' x → x.cell? ⟨g, k, none⟩ = some (.string F) := by
  refine (cFaults).mono ?_
  rintro e w' ⟨rfl, hn⟩
  obtain ⟨f1, f2⟩ := flt_at k h1 h8
  refine ⟨w.heap.size, ⟨(Scr.fltN (k : Int)).toArray⟩, rfl, ⟨rfl, by rw [Scr.bs_size]; exact f2⟩, hn.below, fun x hx => ?_⟩
  refine cell_below hx ?_
  have hc := Sts.rowCell (show Sts w [rowP 9 1 (.slice (some ⟨w.heap.size, 0, none⟩) 8 8) 8 (strsV ([] :: flts))] w' from Sts.new stab0 (Sts.nil w) hn) k h8 (.string ⟨(Scr.fltN (k : Int)).toArray⟩) (by rw [show strsV ([] :: flts) = (([] : Str) :: flts).map strV from rfl, List.getElem?_map, f1]; rfl)
  exact hc
set_option maxRecDepth 100000 in
set_option maxHeartbeats 8000000 in
theorem cText4a (a : Scr.Act) (dv av cv : Value) (hk : a.kind = 4) (hf : a.fk < 1) : Calls Tryd.prog 25 #[.agg (actC a dv av cv)] w fun e w' => e = .returned (.string ⟨(textV a).toArray⟩) ∧ Below w.heap.size w w' := by
  have ht : textV a = [] := by unfold textV textL; rw [hk, if_neg (by decide), if_neg (by decide), if_neg (by decide), if_neg (by decide), if_pos rfl, if_neg (by omega)]; rfl
  rw [ht]
  have HB := hid ((Sts.nil w).alloc stab0 (.cells (actC a dv av cv) 29))
  have k0 := (Sts.actM HB.out).c0
  rw [hk] at k0
  have HK := hid hk
  clear hk
  have HM := hid (show ∀ x, Up (w.alloc (.cells (actC a dv av cv) 29)) x → x.cell? ⟨w.heap.size, 9, none⟩ = some (.int .i64 a.fk) ∧ x.cell? ⟨w.heap.size, 10, none⟩ = some (.int .i64 a.fat) ∧ x.cell? ⟨w.heap.size, 11, none⟩ = some (.int .i64 a.fbit) from fun x hx => ⟨((Sts.actM HB.out).below hx).c9, ((Sts.actM HB.out).below hx).c10, ((Sts.actM HB.out).below hx).c11⟩)
  have D0 := hid ((Below.refl (w.alloc (.cells (actC a dv av cv) 29)).heap.size (w.alloc (.cells (actC a dv av cv) 29))).drew)
  have hf1 : decide (a.fk < 1) = true := decide_eq_true hf
  clear ht
  go_enter Tryd.func25, Tryd.ntmps25
  go_wp2_with fail
  refine wp_region_ord (.pure 0 (.pure 1 (.pure 2 (.pure 3 (.pure 4 (.pure 5 (.pure 6 (.pure 7 (.eff 8 (.pure 9 (.pure 10 (.pure 11 .nil)))))))))))) (Up (w.alloc (.cells (actC a dv av cv) 29))) (Up (w.alloc (.cells (actC a dv av cv) 29))) (by kernel_rfl) (by kernel_rfl) D0.out (fun _ h => h) ?_
  iterate 5
    (apply ord_pure (ho := rfl)
     · go_simp
     · intro x hx; obtain ⟨c1, c2, c3⟩ := HM.out x hx; go_simp; rfl
     apply ord_norm
     · go_simp; rfl)
  iterate 3
    (apply ord_skip (ho := rfl)
     · go_simp
     apply ord_norm
     · go_simp; rfl)
  apply ord_eskip (ho := rfl)
  · go_simp
  apply ord_norm
  · go_simp; rfl
  iterate 2
    (apply ord_skip (ho := rfl)
     · go_simp
     apply ord_norm
     · go_simp; rfl)
  iterate 1
    (apply ord_pure (ho := rfl)
     · go_simp
     · intro x hx; go_simp; rfl
     apply ord_norm
     · go_simp; rfl)
  apply ord_nil
  intro y hy
  have HY := hid hy
  clear hy
  go_wp2_with fail
  go_ret
  exact ⟨rfl, below_step HB.out.below HY.out⟩
set_option maxRecDepth 100000 in
set_option maxHeartbeats 8000000 in
theorem cText4b (a : Scr.Act) (dv av cv : Value) (hk : a.kind = 4) (hf : 8 ≤ a.fk) : Calls Tryd.prog 25 #[.agg (actC a dv av cv)] w fun e w' => e = .returned (.string ⟨(textV a).toArray⟩) ∧ Below w.heap.size w w' := by
  have ht : textV a = [] := by unfold textV textL; rw [hk, if_neg (by decide), if_neg (by decide), if_neg (by decide), if_neg (by decide), if_pos rfl, if_neg (by omega)]; rfl
  rw [ht]
  have HB := hid ((Sts.nil w).alloc stab0 (.cells (actC a dv av cv) 29))
  have k0 := (Sts.actM HB.out).c0
  rw [hk] at k0
  have HK := hid hk
  clear hk
  have HM := hid (show ∀ x, Up (w.alloc (.cells (actC a dv av cv) 29)) x → x.cell? ⟨w.heap.size, 9, none⟩ = some (.int .i64 a.fk) ∧ x.cell? ⟨w.heap.size, 10, none⟩ = some (.int .i64 a.fat) ∧ x.cell? ⟨w.heap.size, 11, none⟩ = some (.int .i64 a.fbit) from fun x hx => ⟨((Sts.actM HB.out).below hx).c9, ((Sts.actM HB.out).below hx).c10, ((Sts.actM HB.out).below hx).c11⟩)
  have D0 := hid ((Below.refl (w.alloc (.cells (actC a dv av cv) 29)).heap.size (w.alloc (.cells (actC a dv av cv) 29))).drew)
  have hf1 : decide (a.fk < 1) = false := decide_eq_false (by omega)
  have hf2 : ¬ a.fk < 1 := by omega
  have hf3 : decide (8 ≤ a.fk) = true := decide_eq_true hf
  clear ht
  go_enter Tryd.func25, Tryd.ntmps25
  go_wp2_with fail
  refine wp_region_ord (.pure 0 (.pure 1 (.pure 2 (.pure 3 (.pure 4 (.pure 5 (.pure 6 (.pure 7 (.eff 8 (.pure 9 (.pure 10 (.pure 11 .nil)))))))))))) (Up (w.alloc (.cells (actC a dv av cv) 29))) (Up (w.alloc (.cells (actC a dv av cv) 29))) (by kernel_rfl) (by kernel_rfl) D0.out (fun _ h => h) ?_
  iterate 8
    (apply ord_pure (ho := rfl)
     · go_simp
     · intro x hx; obtain ⟨c1, c2, c3⟩ := HM.out x hx; go_simp; rfl
     apply ord_norm
     · go_simp; rfl)
  apply ord_eff (ho := rfl)
  · go_simp
  intro x hx
  refine eff_up hx ?_ (cFaultsK (w := x) 1 (by decide) (by decide)) ?_
  · go_simp
  rintro e w3 ⟨g, F, rfl, -, hb, -⟩
  refine ⟨_, rfl, hb, fun hw => ?_⟩
  apply ord_norm
  · go_simp; rfl
  have D3 := hid hw
  clear hw hb hx
  iterate 3
    (apply ord_pure (ho := rfl)
     · go_simp
     · intro x hx; go_simp; rfl
     apply ord_norm
     · go_simp; rfl)
  apply ord_nil
  intro y hy
  have HY := hid hy
  clear hy
  go_wp2_with fail
  go_ret
  exact ⟨rfl, below_step HB.out.below (below_step D3.out HY.out)⟩
set_option maxRecDepth 100000 in
set_option maxHeartbeats 8000000 in
theorem cText4 (a : Scr.Act) (dv av cv : Value) (hk : a.kind = 4) (hf : 1 ≤ a.fk ∧ a.fk ≤ 7) (hn1 : i64 a.fat) (hn2 : i64 a.fbit) (hE : Env w) : Calls Tryd.prog 25 #[.agg (actC a dv av cv)] w fun e w' => e = .returned (.string ⟨(textV a).toArray⟩) ∧ Below w.heap.size w w' := by
  obtain ⟨k, hkk⟩ : ∃ k : Nat, a.fk = (k : Int) := ⟨a.fk.toNat, by omega⟩
  have HB := hid ((Sts.nil w).alloc stab0 (.cells (actC a dv av cv) 29))
  have k0 := (Sts.actM HB.out).c0
  rw [hk] at k0
  have HK := hid hk
  clear hk
  have HM := hid (show ∀ x, Up (w.alloc (.cells (actC a dv av cv) 29)) x → x.cell? ⟨w.heap.size, 9, none⟩ = some (.int .i64 (k : Int)) ∧ x.cell? ⟨w.heap.size, 10, none⟩ = some (.int .i64 a.fat) ∧ x.cell? ⟨w.heap.size, 11, none⟩ = some (.int .i64 a.fbit) from fun x hx => ⟨by rw [← hkk]; exact ((Sts.actM HB.out).below hx).c9, ((Sts.actM HB.out).below hx).c10, ((Sts.actM HB.out).below hx).c11⟩)
  have D0 := hid ((Below.refl (w.alloc (.cells (actC a dv av cv) 29)).heap.size (w.alloc (.cells (actC a dv av cv) 29))).drew)
  have hk1 : 1 ≤ k := by omega
  have hk8 : k < 8 := by omega
  have hf1 : decide ((k : Int) < 1) = false := decide_eq_false (by omega)
  have hf2 : ¬ (k : Int) < 1 := by omega
  have hf3 : decide (8 ≤ (k : Int)) = false := decide_eq_false (by omega)
  have hf4 : ¬ 8 ≤ (k : Int) := by omega
  have hf5 : (k : Int) < 8 := by omega
  have hf6 : (0 : Int) ≤ (k : Int) := by omega
  have HE := hid (show ∀ x, Up (w.alloc (.cells (actC a dv av cv) 29)) x → Env x from fun x hx => hE.below (below_step HB.out.below hx))
  have HKK := hid hkk
  have HN1 := hid hn1
  have HN2 := hid hn2
  clear hE hf hkk hn1 hn2
  go_enter Tryd.func25, Tryd.ntmps25
  go_wp2_with fail
  refine wp_region_ord (.pure 0 (.pure 1 (.pure 2 (.pure 3 (.pure 4 (.pure 5 (.pure 6 (.pure 7 (.eff 8 (.pure 9 (.pure 10 (.pure 11 .nil)))))))))))) (Up (w.alloc (.cells (actC a dv av cv) 29))) (Up (w.alloc (.cells (actC a dv av cv) 29))) (by kernel_rfl) (by kernel_rfl) D0.out (fun _ h => h) ?_
  iterate 8
    (apply ord_pure (ho := rfl)
     · go_simp
     · intro x hx; obtain ⟨c1, c2, c3⟩ := HM.out x hx; go_simp; rfl
     apply ord_norm
     · go_simp; rfl)
  apply ord_eff (ho := rfl)
  · go_simp
  intro x hx
  refine eff_up hx ?_ (cFaultsK (w := x) 1 (by decide) (by decide)) ?_
  · go_simp
  rintro e w3 ⟨g0, F0, rfl, -, hb, -⟩
  refine ⟨_, rfl, hb, fun hw => ?_⟩
  apply ord_norm
  · go_simp; rfl
  have D3 := hid hw
  clear hw hb hx
  iterate 3
    (apply ord_pure (ho := rfl)
     · go_simp
     · intro x hx; go_simp; rfl
     apply ord_norm
     · go_simp; rfl)
  apply ord_nil
  intro y hy
  have HY := hid (below_step D3.out hy)
  clear hy
  have D1 := hid ((Below.refl y.heap.size y).drew)
  replace HM := hid (fun x (hx : Up y x) => HM.out x (below_step HY.out hx))
  replace HE := hid (fun x (hx : Up y x) => HE.out x (below_step HY.out hx))
  have HF := hid (fun x : World => cFaultsK (w := x) k hk1 hk8)
  have HI := hid (fun x hx => cItoaI (w := x) a.fat HN1.out (HE.out x hx))
  have HJ := hid (fun x hx => cItoaI (w := x) a.fbit HN2.out (HE.out x hx))
  clear hf2 hf4 HE HN1 HN2
  go_wp2_with fail
  refine wp_region_ord (.pure 1 (.pure 2 (.pure 3 (.pure 8 (.pure 9 (.pure 10 (.pure 14 (.pure 15 (.pure 16 (.eff 0 (.pure 4 (.pure 5 (.pure 6 (.pure 7 (.eff 11 (.pure 12 (.pure 13 (.eff 17 (.pure 18 (.pure 19 .nil)))))))))))))))))))) (Up y) (Up y) (by kernel_rfl) (by kernel_rfl) D1.out (fun _ h => h) ?_
  iterate 9
    (apply ord_pure (ho := rfl)
     · go_simp
     · intro x hx; obtain ⟨c1, c2, c3⟩ := HM.out x hx; go_simp; rfl
     apply ord_norm
     · go_simp; rfl)
  apply ord_eff (ho := rfl)
  · go_simp
  intro x hx
  refine eff_up hx ?_ (HF.out x) ?_
  · go_simp
  rintro e w4 ⟨g, F, rfl, ⟨hF, hF2⟩, hb, hcF⟩
  refine ⟨_, rfl, hb, fun hw => ?_⟩
  apply ord_norm
  · go_simp; rfl
  have D4 := hid hw
  have HCF := hid hcF
  have HFB := hid hF
  have f1 : ¬ 9223372036854775807 < 6 + F.size := by omega
  have f2 : ¬ 9223372036854775807 < 6 + F.size + 1 := by omega
  clear hw hb hx hF hcF
  iterate 1
    (apply ord_pure (ho := rfl)
     · go_simp
     · intro x hx; go_simp; rfl
     apply ord_norm
     · go_simp; rfl)
  iterate 1
    (apply ord_pure (ho := rfl)
     · go_simp
     · intro x hx; have c4 := HCF.out x hx; go_simp; rfl
     apply ord_norm
     · go_simp; rfl)
  iterate 2
    (apply ord_pure (ho := rfl)
     · go_simp
     · intro x hx; go_simp; rfl
     apply ord_norm
     · go_simp; rfl)
  apply ord_eff (ho := rfl)
  · go_simp
  intro x hx
  refine eff_up hx ?_ (HI.out x (below_step D4.out hx)) ?_
  · go_simp
  rintro e w5 ⟨I, rfl, ⟨hI, hI2⟩, hb⟩
  refine ⟨_, rfl, hb, fun hw => ?_⟩
  apply ord_norm
  · go_simp; rfl
  have D5 := hid (below_step D4.out hw)
  have HIB := hid hI
  have f3 : ¬ 9223372036854775807 < 6 + F.size + 1 + I.size := by omega
  have f4 : ¬ 9223372036854775807 < 6 + F.size + 1 + I.size + 1 := by omega
  clear hw hb hx hI
  iterate 2
    (apply ord_pure (ho := rfl)
     · go_simp
     · intro x hx; go_simp; rfl
     apply ord_norm
     · go_simp; rfl)
  apply ord_eff (ho := rfl)
  · go_simp
  intro x hx
  refine eff_up hx ?_ (HJ.out x (below_step D5.out hx)) ?_
  · go_simp
  rintro e w6 ⟨J, rfl, ⟨hJ, hJ2⟩, hb⟩
  refine ⟨_, rfl, hb, fun hw => ?_⟩
  apply ord_norm
  · go_simp; rfl
  have D6 := hid (below_step D5.out hw)
  have HJB := hid hJ
  have f5 : ¬ 9223372036854775807 < 6 + F.size + 1 + I.size + 1 + J.size := by omega
  clear hw hb hx hJ
  iterate 2
    (apply ord_pure (ho := rfl)
     · go_simp
     · intro x hx; go_simp; rfl
     apply ord_norm
     · go_simp; rfl)
  apply ord_nil
  intro z hz
  have HZ := hid hz
  clear hz
  go_wp2_with fail
  go_ret
  refine ⟨str_txt ?_, below_step HB.out.below (below_step HY.out (below_step D6.out HZ.out))⟩
  simp only [bs_app, HFB.out, HIB.out, HJB.out, textV, textL, HK.out]
  rw [if_neg (by decide), if_neg (by decide), if_neg (by decide), if_neg (by decide), if_pos trivial, if_pos ⟨by rw [HKK.out]; omega, by rw [HKK.out]; omega⟩, HKK.out]
  simp only [Scr.joinW, List.append_assoc, List.cons_append, List.nil_append]
  rfl
theorem cJoin {W : World} {v : Value} {l : List Str} {L : List HProp} (hS : Sts W (rowP 9 1 v (strsV l).length (strsV l) :: L) w) (hne : l ≠ []) (hj : (Scr.joinW l).length < 1000000) (hl : l.length < 1000000) :
    Calls Tryd.prog 47 #[v, .string ⟨#[32]⟩] w fun e w' => e = .returned (.string ⟨(Scr.joinW l).toArray⟩) ∧ Below w.heap.size w w' := by
  have hown := Sts.rowOwn hS
  have hrd := Rd.of_own hown rfl
  obtain ⟨g, cap, hv⟩ : ∃ g cap, v = .slice (some ⟨g, 0, none⟩) (strsV l).length cap := by
    obtain ⟨h1, h2⟩ := hown
    rcases h2 with ⟨h2, h3⟩ | ⟨g, cap, cur, hv, r⟩
    · exfalso
      apply hne
      rw [strsV_len] at h3
      exact List.length_eq_zero_iff.1 h3
    · exact ⟨g, cap, hv⟩
  subst hv
  have hlt := (hown.lt g rfl).2
  obtain ⟨-, hc1, -⟩ := hrd.cap
  have e1 : (l.map fun s => (⟨s.toArray⟩ : ByteArray)).map (fun x => x.data.toList) = l := by
    rw [List.map_map]
    conv => rhs; rw [← List.map_id l]
    apply List.map_congr_left
    intro a _
    rfl
  have := Tryd.strings_Join g 0 cap (l.map fun s => (⟨s.toArray⟩ : ByteArray)) ⟨#[32]⟩ w (fun j x hx => by
    rw [List.getElem?_map] at hx
    rw [Nat.zero_add]
    cases h : l[j]? with
    | none => rw [h] at hx; cases hx
    | some s =>
      rw [h] at hx
      injection hx with hx
      subst hx
      have hj2 : j < l.length := by
        rcases Nat.lt_or_ge j l.length with h' | h'
        · exact h'
        · rw [List.getElem?_eq_none h'] at h; cases h
      exact Sts.rowCell hS j (by rw [strsV_len]; exact hj2) _ (by rw [show strsV l = l.map strV from rfl, List.getElem?_map, h]; rfl)) hlt (by rw [List.length_map]; omega) (by rw [List.length_map, ← strsV_len l]; exact hc1) (by rw [e1]; show (Lib.join l [32]).length ≤ _; rw [join_eq]; omega)
  rw [e1, show (⟨#[32]⟩ : ByteArray).data.toList = [32] from rfl, join_eq, List.length_map] at this
  rw [strsV_len]
  exact this
theorem newRow2 (x y : Value) : New w (w.alloc (.cells #[x, y] 9)) 9 (.slice (some ⟨w.heap.size, 0, none⟩) 2 2) [x, y] :=
  ⟨⟨rfl, Or.inr ⟨_, _, _, rfl, Nat.le_refl _, heap_new w _ rfl, Nat.le_refl _, by decide, rfl, rfl⟩⟩, (Below.refl _ _).alloc (Nat.le_refl _) _⟩
theorem map_take (l : List Int) (k : Nat) (h : k < l.length) : (l.take (k + 1)).map Lib.itoa = (l.take k).map Lib.itoa ++ [Lib.itoa l[k]] := by
  rw [List.take_succ_eq_append_getElem h, List.map_append]; rfl
set_option maxRecDepth 100000 in
set_option maxHeartbeats 8000000 in
theorem cText2 (a : Scr.Act) (dv av cv : Value) (hk : a.kind = 2) (hn : ∀ n ∈ a.args, i64 n) (hT : a.args.length < 100000) (hN : a.cdata.length < 1000000) (hlen : (textV a).length < 1000000) (hV : ActV w a dv av cv) (hE : Env w) :
    Calls Tryd.prog 25 #[.agg (actC a dv av cv)] w fun e w' => e = .returned (.string ⟨(textV a).toArray⟩) ∧ Below w.heap.size w w' := by
  have htx : textV a = Scr.joinW (b8 "command" :: Scr.svcN a.svc :: (a.args.map Lib.itoa ++ if a.cdata = [] then [] else [Scr.hexV a.cdata])) := by unfold textV textL; rw [hk, if_neg (by decide), if_neg (by decide), if_pos rfl]
  rw [htx] at hlen ⊢
  clear htx
  have HB := hid ((Sts.nil w).alloc stab0 (.cells (actC a dv av cv) 29))
  have k0 := (Sts.actM HB.out).c0
  rw [hk] at k0
  have k6 := (Sts.actM HB.out).c6
  obtain ⟨aa, ca, hav⟩ := hV.args.eq
  rw [intsV_len] at hav
  obtain ⟨ba, bc, hcv⟩ := hV.cdata.eq
  rw [u8v_len] at hcv
  have HRA := hid (show Rd w (.slice aa a.args.length ca) (intsV a.args) from hav ▸ hV.args)
  have HX := hid (fun x (hx : Below w.heap.size w x) => cHex (w := x) ba bc a.cdata (by rw [← hcv]; exact hV.cdata.below hx) (by omega))
  have HE := hid (fun x (hx : Below w.heap.size w x) => hE.below hx)
  have HI := hid (fun n (hm : n ∈ a.args) x (hx : Below w.heap.size w x) => cItoaI (w := x) n (hn n hm) (hE.below hx))
  obtain ⟨T, hTe⟩ : ∃ T, T = a.args.length := ⟨_, rfl⟩
  obtain ⟨N, hNe⟩ : ∃ N, N = a.cdata.length := ⟨_, rfl⟩
  have HC := hid (show ∀ (W y : World) (l : List HProp), Sts W (blkP w.heap.size (.cells (actC a dv av cv) 29 (0, 0)) :: l) y → y.cell? ⟨w.heap.size, 7, none⟩ = some (.slice aa T ca) ∧ y.cell? ⟨w.heap.size, 8, none⟩ = some (.slice ba N bc) from fun W y l h => ⟨by rw [hTe, ← hav]; exact (Sts.actM h).c7, by rw [hNe, ← hcv]; exact (Sts.actM h).c8⟩)
  obtain ⟨cs, hcs⟩ : ∃ cs, cs = actC a dv av cv := ⟨_, rfl⟩
  rw [← hcs] at HB HC k0 k6 ⊢
  rw [← hTe] at HRA hT
  rw [← hNe] at HX hN
  have HTE := hid hTe
  have HNE := hid hNe
  obtain ⟨tail, htl⟩ : ∃ tail, tail = (if a.cdata = [] then [] else [Scr.hexV a.cdata] : List Str) := ⟨_, rfl⟩
  rw [← htl] at hlen ⊢
  have HTL := hid htl
  have HLN := hid hlen
  have HCN := hid (fun x : World => cCName (w := x) a.svc)
  obtain ⟨sn, hsn⟩ : ∃ sn, sn = Scr.svcN a.svc := ⟨_, rfl⟩
  rw [← hsn] at HCN HLN ⊢
  have HS0 : Hid (∀ x y : World, Sts w [blkP w.heap.size (.cells cs 29 (0, 0))] x → Sts w [rowP 9 1 (.slice (some ⟨x.heap.size, 0, none⟩) 2 2) (strsV (b8 "command" :: sn :: (a.args.take 0).map Lib.itoa)).length (strsV (b8 "command" :: sn :: (a.args.take 0).map Lib.itoa)), blkP w.heap.size (.cells cs 29 (0, 0))] (x.alloc (.cells #[.string ⟨#[99, 111, 109, 109, 97, 110, 100]⟩, .string ⟨sn.toArray⟩] 9))) := hid (fun x y h => Sts.new (stab1 (blkP_stable _ _)) h (newRow2 (w := x) (.string ⟨#[99, 111, 109, 109, 97, 110, 100]⟩) (.string ⟨sn.toArray⟩)))
  clear hk hav hcv hTe hNe htl hlen hsn hcs hn hV hE
  go_enter Tryd.func25, Tryd.ntmps25
  go_wp2_with (first | (go_at_call 45; refine (HCN.out _).mono ?_; rintro e w1 ⟨rfl, hb⟩; have HQ := hid (HB.out.quiet (stab1 (blkP_stable _ _)) hb); clear hb; have HS1 := hid (HS0.out _ w1 HQ.out); obtain ⟨k7, -⟩ := HC.out _ _ _ (Sts.swap HS1.out)))
  go_loopw [3, 31] (fun v i wr => ∃ k : Nat, k ≤ T ∧ i = .int .i64 k ∧ Hid (Sts w [rowP 9 1 v (strsV (b8 "command" :: sn :: (a.args.take k).map Lib.itoa)).length (strsV (b8 "command" :: sn :: (a.args.take k).map Lib.itoa)), blkP w.heap.size (.cells cs 29 (0, 0))] wr)) (fun _ i _ => T - (intOf i).toNat)
  case atStart => exact ⟨0, by omega, rfl, HS1⟩
  case round =>
    obtain ⟨k, hk, rfl, HS⟩ := hrel
    by_cases hlt : k < T
    · have hka : k < a.args.length := by rw [← HTE.out]; exact hlt
      obtain ⟨a', c', e', hcap, hx⟩ := HRA.out
      injection e' with e1 e2 e3
      subst e1
      obtain ⟨bb, off, rfl, hb1, hb2⟩ := hx k (by rw [intsV_len]; exact hka)
      have hcell : wr.cell? ⟨bb, off + k, none⟩ = some (.int .i64 a.args[k]) := by
        have := cell_below HS.out.below hb2
        rw [this]; simp [intsV]
      have HMT := hid (map_take a.args k hka)
      have HII := hid (HI.out a.args[k] (List.getElem_mem hka) wr HS.out.below)
      obtain ⟨n, hn⟩ : ∃ n, n = a.args[k] := ⟨_, rfl⟩
      rw [← hn] at hcell HMT HII
      have hf2 : (strsV (b8 "command" :: sn :: (a.args.take k).map Lib.itoa)).length + 1 < 1000000000 := by rw [strsV_len]; simp; omega
      clear hn hx e2 e3 hcap hb1 hb2 k7
      go_wp2_with (first | (go_at_call 44; refine HII.out.mono ?_; rintro e w2 ⟨I, rfl, ⟨hI, hI2⟩, hb⟩; have HS2 := hid (HS.out.quiet (stabC (rowP_stable _ _ _ _ _) (stab1 (blkP_stable _ _))) hb); have HIB := hid hI; clear hb hI) | (at_builtin; refine wpList_app eltStr (ms := [.string I]) rfl (.tmp 35) (.tmp 38) rfl (HS2.out.box (stabC (rowP_stable _ _ _ _ _) (stab1 (blkP_stable _ _))) _) (stab1 (blkP_stable _ _)) rfl ⟨w2.heap.size, 0, none⟩ 1 rfl (new_cell _ _ _) (fun u hu => by simp only [List.mem_singleton] at hu; subst hu; rfl) (by decide) hf2 ?_; intro v' w3 hz; have HZ := hid hz; clear hz))
      all_goals (go_roundw
                 case rel => exact ⟨k + 1, by omega, by simp, hid (by
                   have := HZ.out
                   rw [show [Value.string I] = strsV [Lib.itoa n] by rw [← HIB.out]; show _ = [Value.string ⟨(bs I).toArray⟩]; rw [Scr.mk_bs]] at this
                   rw [HMT.out]
                   have e : strsV (b8 "command" :: sn :: ((a.args.take k).map Lib.itoa ++ [Lib.itoa n])) = strsV (b8 "command" :: sn :: (a.args.take k).map Lib.itoa) ++ strsV [Lib.itoa n] := by simp [strsV]
                   rw [e]
                   exact this)⟩
                 case measure => simp [intOf]; omega)
    · have hkT : k = T := by omega
      subst hkT
      have HJ := hid (show Sts w [rowP 9 1 u3 (strsV (b8 "command" :: sn :: a.args.map Lib.itoa)).length (strsV (b8 "command" :: sn :: a.args.map Lib.itoa)), blkP w.heap.size (.cells cs 29 (0, 0))] wr by
        have := HS.out
        rw [HTE.out, List.take_length] at this
        exact this)
      obtain ⟨-, k8⟩ := HC.out _ _ _ HJ.out.swap
      clear k7 HS
      have hf2 : (strsV (b8 "command" :: sn :: a.args.map Lib.itoa)).length + 1 < 1000000000 := by rw [strsV_len]; simp; have := HTE.out; omega
      have hf3 : (b8 "command" :: sn :: a.args.map Lib.itoa).length < 100002 := by simp; have := HTE.out; omega
      by_cases h0 : N = 0
      · have hte : tail = [] := by rw [HTL.out, if_pos (List.length_eq_zero_iff.1 (by rw [← HNE.out]; exact h0))]
        subst h0 hte
        rw [List.append_nil] at HLN
        go_wp2_with (first | (go_at_call 47; refine (cJoin HJ.out (by simp) HLN.out (by omega)).mono ?_; rintro e w9 ⟨rfl, hw⟩; have H9 := hid (below_step HJ.out.below hw); clear hw))
        go_ret
        exact ⟨congrArg (fun l => Ending.returned (.string ⟨(Scr.joinW (b8 "command" :: sn :: l)).toArray⟩)) (List.append_nil _).symm, H9.out⟩
      · have hte : tail = [Scr.hexV a.cdata] := by rw [HTL.out, if_neg (fun h => h0 (by rw [HNE.out, h]; rfl))]
        subst hte
        have h1 : (0 : Int) < (N : Int) := by omega
        obtain ⟨X, hX⟩ : ∃ X : ByteArray, X = ⟨(Scr.hexV a.cdata).toArray⟩ := ⟨_, rfl⟩
        rw [← hX] at HX
        have HXB := hid (show [Value.string X] = strsV [Scr.hexV a.cdata] by rw [hX]; rfl)
        clear hX
        go_wp2_with (first | (go_at_call 46; refine (HX.out _ HJ.out.below).mono ?_; rintro e w2 ⟨rfl, hb⟩; have HS2 := hid (HJ.out.quiet (stabC (rowP_stable _ _ _ _ _) (stab1 (blkP_stable _ _))) hb); clear hb) | (at_builtin; refine wpList_app eltStr (ms := [.string X]) rfl (.tmp 46) (.tmp 51) rfl (HS2.out.box (stabC (rowP_stable _ _ _ _ _) (stab1 (blkP_stable _ _))) _) (stab1 (blkP_stable _ _)) rfl ⟨w2.heap.size, 0, none⟩ 1 rfl (new_cell _ _ _) (fun u hu => by simp only [List.mem_singleton] at hu; subst hu; rfl) (by decide) hf2 ?_; intro v' w3 hz; clear HJ; have HJ := hid (show Sts w [rowP 9 1 v' (strsV (b8 "command" :: sn :: (a.args.map Lib.itoa ++ [Scr.hexV a.cdata]))).length (strsV (b8 "command" :: sn :: (a.args.map Lib.itoa ++ [Scr.hexV a.cdata]))), _] w3 from (by rw [HXB.out] at hz; have e : strsV (b8 "command" :: sn :: (a.args.map Lib.itoa ++ [Scr.hexV a.cdata])) = strsV (b8 "command" :: sn :: a.args.map Lib.itoa) ++ strsV [Scr.hexV a.cdata] := (by simp [strsV]); rw [e]; exact hz)); clear hz; have hf3 : (b8 "command" :: sn :: (a.args.map Lib.itoa ++ [Scr.hexV a.cdata])).length < 100003 := (by simp at hf3 ⊢; omega)) | (go_at_call 47; refine (cJoin HJ.out (by simp) HLN.out (by omega)).mono ?_; rintro e w9 ⟨rfl, hw⟩; have H9 := hid (below_step HJ.out.below hw); clear hw))
        go_ret
        exact ⟨rfl, H9.out⟩
/-- What text takes. -/
structure TextOk (a : Scr.Act) : Prop where
  num : i64 a.num
  fat : i64 a.fat
  fbit : i64 a.fbit
  args : ∀ n ∈ a.args, i64 n
  few : a.args.length < 100000
  name : a.name.length < 1000000
  data : a.data.length < 1000000
  cdata : a.cdata.length < 1000000
  text : (textV a).length < 900000
theorem cText (a : Scr.Act) (dv av cv : Value) (hO : TextOk a) (hV : ActV w a dv av cv) (hE : Env w) :
    Calls Tryd.prog 25 #[.agg (actC a dv av cv)] w fun e w' => e = .returned (.string ⟨(textV a).toArray⟩) ∧ Below w.heap.size w w' := by
  by_cases h1 : a.kind = 1
  · exact cText1 a dv av cv h1 hO.num hE
  by_cases h5 : a.kind = 5
  · exact cText5 a dv av cv h5 hO.num hE
  by_cases h2 : a.kind = 2
  · exact cText2 a dv av cv h2 hO.args hO.few hO.cdata (by have := hO.text; omega) hV hE
  by_cases h3 : a.kind = 3
  · exact cText3 a dv av cv h3 hO.num hO.name hO.data hV hE
  by_cases h4 : a.kind = 4
  · by_cases hf : a.fk < 1
    · exact cText4a a dv av cv h4 hf
    · by_cases hf8 : 8 ≤ a.fk
      · exact cText4b a dv av cv h4 hf8
      · exact cText4 a dv av cv h4 (by omega) hO.fat hO.fbit hE
  · exact cText0 a dv av cv h1 h5 h2 h3 h4
end
end Go.Proofs.YtimnhheagdhpgaaDoor
