/- Writing an act: the walk. -/
import Derived.Test.YtimnhheagdhpgaaDoorScrQ
set_option linter.unusedVariables false
set_option linter.unusedSimpArgs false
namespace Go.Proofs.YtimnhheagdhpgaaDoor
open Go.RowKit Go.Proofs.Num
open Scr (Str bs numV numsV small svcV fltV nameV bytesV oneV fileV faultV orderV tailV flts parseL parseV b8 textV textL)
/-- The cells of an act in memory. -/
structure ActM (w : World) (b : Nat) (a : Scr.Act) (dv av cv : Value) : Prop where
  c0 : w.cell? ⟨b, 0, none⟩ = some (.int .i64 a.kind)
  c1 : w.cell? ⟨b, 1, none⟩ = some (.int .i64 a.num)
  c2 : w.cell? ⟨b, 2, none⟩ = some (.string ⟨a.name.toArray⟩)
  c3 : w.cell? ⟨b, 3, none⟩ = some (dv)
  c4 : w.cell? ⟨b, 4, none⟩ = some (.int .i64 a.src)
  c5 : w.cell? ⟨b, 5, none⟩ = some (.int .i64 a.cnum)
  c6 : w.cell? ⟨b, 6, none⟩ = some (.int .i64 a.svc)
  c7 : w.cell? ⟨b, 7, none⟩ = some (av)
  c8 : w.cell? ⟨b, 8, none⟩ = some (cv)
  c9 : w.cell? ⟨b, 9, none⟩ = some (.int .i64 a.fk)
  c10 : w.cell? ⟨b, 10, none⟩ = some (.int .i64 a.fat)
  c11 : w.cell? ⟨b, 11, none⟩ = some (.int .i64 a.fbit)
theorem Sts.actM {W w : World} {l : List HProp} {b : Nat} {a : Scr.Act} {dv av cv : Value} (h : Sts W (blkP b (.cells (actC a dv av cv) 29 (0, 0)) :: l) w) : ActM w b a dv av cv :=
  ⟨(Sts.boxCell h 0 _ rfl).1, (Sts.boxCell h 1 _ rfl).1, (Sts.boxCell h 2 _ rfl).1, (Sts.boxCell h 3 _ rfl).1, (Sts.boxCell h 4 _ rfl).1, (Sts.boxCell h 5 _ rfl).1, (Sts.boxCell h 6 _ rfl).1, (Sts.boxCell h 7 _ rfl).1, (Sts.boxCell h 8 _ rfl).1, (Sts.boxCell h 9 _ rfl).1, (Sts.boxCell h 10 _ rfl).1, (Sts.boxCell h 11 _ rfl).1⟩
/-- A call that only makes memory, in a region that draws its order. -/
def Up (W : World) : World → Prop := fun y => Below W.heap.size W y
theorem below_step {A w w' : World} (h : Below A.heap.size A w) (k : Below w.heap.size w w') : Below A.heap.size A w' := h.trans (k.mono h.size)
theorem eff_up {P : Program} {L : Prop} {dst : Option Tmp} {a : Act} {K : Act → WP → WP → Prop} {f : FuncId} {args : Array Value} {A w : World} {r : Result Next} {R : Ending → World → Prop} (hA : Up A w) (hr : r = .ok (.enter f args) w) (hc : Calls P f args w R)
    (hk : ∀ e w', R e w' → ∃ u, e = .returned u ∧ Below w.heap.size w w' ∧ (Up A w' → K (a.put dst u) (Up w') (Up w'))) : effUpon P L dst a (Up A) K r :=
  eff_call hr hc fun e w' he => by
    obtain ⟨u, h1, h2, h3⟩ := hk e w' he
    have h4 : Up A w' := below_step hA h2
    exact ⟨u, h1, Up w', Up w', Below.refl _ _, fun _ h => h, fun y hy => below_step h4 hy, h3 h4⟩
theorem ActM.below {w w' : World} {b : Nat} {a : Scr.Act} {dv av cv : Value} (h : ActM w b a dv av cv) (hb : Below w.heap.size w w') : ActM w' b a dv av cv := by
  obtain ⟨c0, c1, c2, c3, c4, c5, c6, c7, c8, c9, c10, c11⟩ := h
  exact ⟨cell_below hb c0, cell_below hb c1, cell_below hb c2, cell_below hb c3, cell_below hb c4, cell_below hb c5, cell_below hb c6, cell_below hb c7, cell_below hb c8, cell_below hb c9, cell_below hb c10, cell_below hb c11⟩
theorem str_txt {S : ByteArray} {l : Str} (h : bs S = l) : Ending.returned (.string S) = Ending.returned (.string ⟨l.toArray⟩) := by
  rw [← h, Scr.mk_bs]
theorem bs_app (A B : ByteArray) : bs (A ++ B) = bs A ++ bs B := by
  rw [← Scr.mk_bs A, ← Scr.mk_bs B, ByteArray.mk_append_mk]
theorem nDig : ∀ k u : Nat, u < 10 ^ (k + 1) → Lib.nDigits u ≤ k + 1 := by
  intro k
  induction k with
  | zero => intro u hu; rw [Lib.nDigits_small (by simpa using hu)]; exact Nat.le_refl _
  | succ k ih =>
    intro u hu
    by_cases hs : u < 10
    · rw [Lib.nDigits_small hs]; omega
    · rw [Lib.nDigits_big hs]
      have := ih (u / 10) (by rw [Nat.pow_succ] at hu; omega)
      omega
def i64 (n : Int) : Prop := -9223372036854775808 ≤ n ∧ n ≤ 9223372036854775807
theorem itoa_len {n : Int} (h : i64 n) : (Lib.itoa n).length ≤ 21 := by
  obtain ⟨h0, h1⟩ := h
  have m : ∀ u : Nat, u ≤ 9223372036854775808 → (Lib.decDigits u).length ≤ 20 := fun u hu => by
    rw [Lib.decDigits_length]; exact nDig 19 u (by omega)
  unfold Lib.itoa
  split
  · have := m n.natAbs (by omega); simp; omega
  · have := m n.toNat (by omega); omega
/-- A written number. -/
def Itoa (w : World) (n : Int) (I : ByteArray) : Prop := bs I = Lib.itoa n ∧ I.size ≤ 21
section
variable {w : World}
theorem cItoaI (n : Int) (h : i64 n) (hE : Env w) : Calls Tryd.prog 44 #[.int .i64 n] w fun e w' => ∃ I, e = .returned (.string I) ∧ (bs I = Lib.itoa n ∧ I.size ≤ 21) ∧ Below w.heap.size w w' := by
  refine (cItoa n h.1 h.2 hE).mono ?_
  rintro e w' ⟨rfl, hb⟩
  exact ⟨_, rfl, ⟨rfl, by rw [Scr.bs_size]; exact itoa_len h⟩, hb⟩
theorem join_eq : ∀ l : List Str, Lib.join l [32] = Scr.joinW l
  | [] => rfl
  | [w] => Lib.join_one w [32]
  | w :: a :: b => by
    rw [Lib.join_cons, Scr.joinW_cons w (by simp), ← join_eq (a :: b), Lib.join_cons]
    simp [Lib.joinTail]
set_option maxHeartbeats 4000000 in
theorem cText1 (a : Scr.Act) (dv av cv : Value) (hk : a.kind = 1) (hn : i64 a.num) (hE : Env w) : Calls Tryd.prog 25 #[.agg (actC a dv av cv)] w fun e w' => e = .returned (.string ⟨(textV a).toArray⟩) ∧ Below w.heap.size w w' := by
  have HB := hid ((Sts.nil w).alloc stab0 (.cells (actC a dv av cv) 29))
  have k0 := (Sts.actM HB.out).c0
  have k1 := (Sts.actM HB.out).c1
  have HI := hid (cItoaI (w := w.alloc (.cells (actC a dv av cv) 29)) a.num hn (hE.below HB.out.below))
  rw [hk] at k0
  have HK := hid hk
  clear hk
  go_enter Tryd.func25, Tryd.ntmps25
  go_wp2_with (first | (go_at_call 44; refine HI.out.mono ?_; rintro e w1 ⟨I, rfl, ⟨hI, hI2⟩, hw⟩; have H1 := hid hw; have HIB := hid hI; have hI3 : ¬ 9223372036854775807 < 5 + I.size := (by omega); clear hw hI))
  go_ret
  refine ⟨str_txt ?_, HB.out.below.trans (H1.out.mono HB.out.below.size)⟩
  rw [bs_app, HIB.out, textV, textL]
  simp only [HK.out]
  rw [if_pos trivial]
  rfl
set_option maxHeartbeats 4000000 in
theorem cText5 (a : Scr.Act) (dv av cv : Value) (hk : a.kind = 5) (hn : i64 a.num) (hE : Env w) : Calls Tryd.prog 25 #[.agg (actC a dv av cv)] w fun e w' => e = .returned (.string ⟨(textV a).toArray⟩) ∧ Below w.heap.size w w' := by
  have HB := hid ((Sts.nil w).alloc stab0 (.cells (actC a dv av cv) 29))
  have k0 := (Sts.actM HB.out).c0
  have k1 := (Sts.actM HB.out).c1
  have HI := hid (cItoaI (w := w.alloc (.cells (actC a dv av cv) 29)) a.num hn (hE.below HB.out.below))
  rw [hk] at k0
  have HK := hid hk
  clear hk
  go_enter Tryd.func25, Tryd.ntmps25
  go_wp2_with (first | (go_at_call 44; refine HI.out.mono ?_; rintro e w1 ⟨I, rfl, ⟨hI, hI2⟩, hw⟩; have H1 := hid hw; have HIB := hid hI; have hI3 : ¬ 9223372036854775807 < 5 + I.size := (by omega); clear hw hI))
  go_ret
  refine ⟨str_txt ?_, HB.out.below.trans (H1.out.mono HB.out.below.size)⟩
  rw [bs_app, HIB.out, textV, textL]
  simp only [HK.out]
  rw [if_neg (by decide), if_pos trivial]
  rfl
set_option maxHeartbeats 4000000 in
theorem cText0 (a : Scr.Act) (dv av cv : Value) (h1 : a.kind ≠ 1) (h5 : a.kind ≠ 5) (h2 : a.kind ≠ 2) (h3 : a.kind ≠ 3) (h4 : a.kind ≠ 4) : Calls Tryd.prog 25 #[.agg (actC a dv av cv)] w fun e w' => e = .returned (.string ⟨(textV a).toArray⟩) ∧ Below w.heap.size w w' := by
  have HB := hid ((Sts.nil w).alloc stab0 (.cells (actC a dv av cv) 29))
  have k0 := (Sts.actM HB.out).c0
  have ht : textV a = [] := by unfold textV textL; rw [if_neg h1, if_neg h5, if_neg h2, if_neg h3, if_neg h4]; rfl
  rw [ht]
  have e1 : (a.kind == 1) = false := by simp; exact h1
  have e2 : (a.kind == 2) = false := by simp; exact h2
  have e3 : (a.kind == 3) = false := by simp; exact h3
  have e4 : (a.kind == 4) = false := by simp; exact h4
  have e5 : (a.kind == 5) = false := by simp; exact h5
  clear ht
  go_enter Tryd.func25, Tryd.ntmps25
  go_wp2_with fail
  go_ret
  exact ⟨rfl, HB.out.below⟩
set_option maxRecDepth 100000 in
set_option maxHeartbeats 8000000 in
theorem cText3 (a : Scr.Act) (dv av cv : Value) (hk : a.kind = 3) (hn : i64 a.num) (hnm : a.name.length < 1000000) (hda : a.data.length < 1000000) (hV : ActV w a dv av cv) (hE : Env w) : Calls Tryd.prog 25 #[.agg (actC a dv av cv)] w fun e w' => e = .returned (.string ⟨(textV a).toArray⟩) ∧ Below w.heap.size w w' := by
  have HB := hid ((Sts.nil w).alloc stab0 (.cells (actC a dv av cv) 29))
  have k0 := (Sts.actM HB.out).c0
  rw [hk] at k0
  have HK := hid hk
  clear hk
  have HM := hid (fun x (hx : Up (w.alloc (.cells (actC a dv av cv) 29)) x) => (Sts.actM HB.out).below hx)
  have HI := hid (fun x (hx : Up (w.alloc (.cells (actC a dv av cv) 29)) x) => cItoaI (w := x) a.num hn (hE.below (below_step HB.out.below hx)))
  obtain ⟨da, dc, hdv⟩ := hV.data.eq
  rw [u8v_len] at hdv
  have HX := hid (fun x (hx : Up (w.alloc (.cells (actC a dv av cv) 29)) x) => cHex (w := x) da dc a.data (by rw [← hdv]; exact hV.data.below (below_step HB.out.below hx)) (by omega))
  have HDV := hid hdv
  have D0 := hid ((Below.refl (w.alloc (.cells (actC a dv av cv) 29)).heap.size (w.alloc (.cells (actC a dv av cv) 29))).drew)
  obtain ⟨M, hM⟩ : ∃ M : ByteArray, M = ⟨a.name.toArray⟩ := ⟨_, rfl⟩
  have hM1 : M.size < 1000000 := by rw [hM]; exact size_le hnm
  have hM2 := hid (show bs M = a.name by rw [hM])
  have hh1 : (Scr.hexV a.data).length < 3000000 := by simp [Scr.hexV, Scr.hexB_len]; omega
  have HM : Hid (∀ x, Up (w.alloc (.cells (actC a dv av cv) 29)) x → x.cell? ⟨w.heap.size, 1, none⟩ = some (.int .i64 a.num) ∧ x.cell? ⟨w.heap.size, 2, none⟩ = some (.string M) ∧ x.cell? ⟨w.heap.size, 3, none⟩ = some (.slice da a.data.length dc)) := hid (fun x hx => ⟨(HM.out x hx).c1, by rw [hM]; exact (HM.out x hx).c2, by rw [← hdv]; exact (HM.out x hx).c3⟩)
  clear hM hV hE hn hda hnm hdv
  obtain ⟨N, hN⟩ : ∃ N, N = a.data.length := ⟨_, rfl⟩
  rw [← hN] at HX HM
  clear hN
  go_enter Tryd.func25, Tryd.ntmps25
  go_wp2_with fail
  refine wp_region_ord (.pure 0 (.pure 1 (.pure 5 (.pure 6 (.pure 9 (.pure 10 (.eff 2 (.pure 3 (.pure 4 (.pure 7 (.pure 8 (.eff 11 (.pure 12 (.pure 13 .nil)))))))))))))) (Up (w.alloc (.cells (actC a dv av cv) 29))) (Up (w.alloc (.cells (actC a dv av cv) 29))) (by kernel_rfl) (by kernel_rfl) D0.out (fun _ h => h) ?_
  iterate 6
    (apply ord_pure (ho := rfl)
     · go_simp
     · intro x hx; obtain ⟨c1, c2, c3⟩ := HM.out x hx; go_simp; rfl
     apply ord_norm
     · go_simp; rfl)
  apply ord_eff (ho := rfl)
  · go_simp
  intro x hx
  refine eff_up hx ?_ (HI.out x hx) ?_
  · go_simp
  rintro e w3 ⟨I, rfl, ⟨hI, hI2⟩, hb⟩
  refine ⟨_, rfl, hb, fun hw => ?_⟩
  apply ord_norm
  · go_simp; rfl
  have D3 := hid hw
  have HIB := hid hI
  have f1 : ¬ 9223372036854775807 < 5 + I.size := by omega
  have f2 : ¬ 9223372036854775807 < 5 + I.size + 1 := by omega
  have f3 : ¬ 9223372036854775807 < 5 + I.size + 1 + M.size := by omega
  have f4 : ¬ 9223372036854775807 < 5 + I.size + 1 + M.size + 1 := by omega
  clear hw hb hx hI
  iterate 4
    (apply ord_pure (ho := rfl)
     · go_simp
     · intro x hx; go_simp; rfl
     apply ord_norm
     · go_simp; rfl)
  apply ord_eff (ho := rfl)
  · go_simp
  intro x hx
  refine eff_up hx ?_ (HX.out x (below_step D3.out hx)) ?_
  · go_simp
  rintro e w4 ⟨rfl, hb⟩
  refine ⟨_, rfl, hb, fun hw => ?_⟩
  apply ord_norm
  · go_simp; rfl
  have D4 := hid (below_step D3.out hw)
  obtain ⟨X, hX⟩ : ∃ X : ByteArray, X = ⟨(Scr.hexV a.data).toArray⟩ := ⟨_, rfl⟩
  rw [← hX]
  have hX1 : X.size < 3000000 := by rw [hX]; show (Scr.hexV a.data).toArray.size < _; simpa using hh1
  have HXB := hid (show bs X = Scr.hexV a.data by rw [hX])
  have f5 : ¬ 9223372036854775807 < 5 + I.size + 1 + M.size + 1 + X.size := by omega
  clear hw hb hx hX
  iterate 2
    (apply ord_pure (ho := rfl)
     · go_simp
     · intro x hx; go_simp; rfl
     apply ord_norm
     · go_simp; rfl)
  apply ord_nil
  intro y hy
  have HY := hid hy
  clear hy
  go_wp2_with fail
  go_ret
  refine ⟨str_txt ?_, below_step HB.out.below (below_step D4.out HY.out)⟩
  simp only [bs_app, HIB.out, HXB.out, hM2.out, textV, textL, HK.out]
  rw [if_neg (by decide), if_neg (by decide), if_neg (by decide), if_pos trivial]
  simp only [Scr.joinW, List.append_assoc, List.cons_append, List.nil_append]
  rfl
end
end Go.Proofs.YtimnhheagdhpgaaDoor
