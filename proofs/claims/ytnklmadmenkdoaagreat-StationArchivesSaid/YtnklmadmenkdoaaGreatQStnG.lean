/- A new ground segment, at a valid configuration. -/
import Derived.Test.YtnklmadmenkdoaaGreatQStnN
set_option linter.unusedVariables false
set_option linter.unusedSimpArgs false
namespace Go.Proofs.YtnklmadmenkdoaaGreat
open Go.RowKit Go.Proofs.Num
def cfgD (b : Nat) (F : Array Value) (y : World) : Prop := ∀ (j : Nat) v, F[j]? = some v → y.cell? ⟨b, j, none⟩ = some v
theorem cfg_of {W y : World} {l : List HProp} {b : Nat} {F : Array Value} {t : TypeId} (pre : List HProp) (h : Sts W (pre ++ (blkP b (.cells F t (0, 0)) :: l)) y) : cfgD b F y := fun j v hv => (Sts.boxCell (h.perm List.perm_middle) j v hv).1
theorem sts_drop {W y : World} {l : List HProp} {A : HProp} (pre : List HProp) (h : Sts W (pre ++ (A :: l)) y) : Sts W (pre ++ l) y := Sts.tail (h.perm List.perm_middle)
theorem stabRec (z : Int) (fi ar u0 u1 u2 : Nat) {l : List HProp} (hl : ∀ B ∈ l, Stable B) : ∀ B ∈ recL z fi ar u0 u1 u2 ++ l, Stable B := stabC (blkP_stable _ _) (stabC (blkP_stable _ _) (stabC (blkP_stable _ _) (stabC (blkP_stable _ _) (stabC (blkP_stable _ _) hl))))
theorem stabCou (a b c' d : Int) (c m1 m2 m3 q m : Nat) {l : List HProp} (hl : ∀ B ∈ l, Stable B) : ∀ B ∈ couL a b c' d c m1 m2 m3 q m ++ l, Stable B := stabC (blkP_stable _ _) (stabC (blkP_stable _ _) (stabC (blkP_stable _ _) (stabC (blkP_stable _ _) (stabC (blkP_stable _ _) (stabC (blkP_stable _ _) hl)))))
set_option maxRecDepth 100000 in
theorem infoSta : (Tryz.prog.info? 31).map (·.size) = some 8 := by kernel_rfl
theorem ldSta {W w : World} {l : List HProp} {b : Nat} {x0 x1 x2 x3 x4 x5 x6 x7 : Value} (h : Sts W (blkP b (.cells #[x0, x1, x2, x3, x4, x5, x6, x7] 31 (0, 0)) :: l) w) : (loadVar 31 ⟨b, 0, none⟩).run Tryz.prog w = .ok (.agg #[x0, x1, x2, x3, x4, x5, x6, x7]) w := by
  have hb : w.heap[b]? = some (.cells #[x0, x1, x2, x3, x4, x5, x6, x7] 31 (0, 0)) := by obtain ⟨F, hF⟩ := h.head; exact hF.1
  exact run_loadVar_row (P := Tryz.prog) w b 31 31 #[x0, x1, x2, x3, x4, x5, x6, x7] (0, 0) _ hb Tryz.underlying31 rfl (by rw [infoSta]; rfl)
section
variable {W w : World} {l : List HProp} (hl : ∀ B ∈ l, Stable B)
include hl
set_option maxRecDepth 100000 in
set_option maxHeartbeats 16000000 in
theorem cStaNew (craft win size to re fc ft fr T : Int) (hs : Sts W l w) (h1 : 0 ≤ craft ∧ craft ≤ 1023) (h2 : 1 ≤ win ∧ win ≤ 127) (h3 : 64 ≤ size ∧ size ≤ 1024) (h4 : 1 ≤ to ∧ to ≤ 1048576) (h5 : 1 ≤ re ∧ re ≤ 255) (h6 : 1 ≤ fc ∧ fc ≤ 512) (h7 : 1 ≤ ft ∧ ft ≤ 1048576) (h8 : 0 ≤ fr ∧ fr ≤ 255) (hT : to * (re + 1) = T) (hT2 : 1 ≤ T ∧ T ≤ 1099511627776) :
    Calls Tryz.prog 9 #[.agg #[.int .i64 craft, .int .i64 win, .int .i64 size, .int .i64 to, .int .i64 re, .int .i64 fc, .int .i64 ft, .int .i64 fr]] w fun e w' => ∃ (g fi u0 u1 u2 ar tq c fq mp m1 m2 m3 q m : Nat), e = .returned (.tuple #[.pointer (some ⟨g, 0, none⟩), .int .i64 0]) ∧ Sts W (blkP g (.cells #[.pointer (some ⟨fi, 0, none⟩), .pointer (some ⟨u0, 0, none⟩), .pointer (some ⟨u1, 0, none⟩), .pointer (some ⟨u2, 0, none⟩), .pointer (some ⟨ar, 0, none⟩), .pointer (some ⟨tq, 0, none⟩), .pointer (some ⟨c, 0, none⟩), .bool true, .int .i64 craft, .int .i64 0, .pointer (some ⟨fq, 0, none⟩), .int .i64 1, .map (some mp)] 119 (0, 0)) :: (blkP mp (.map #[] 0) :: (blkP fq (.cells #[.int .i64 win, .slice none 0 0, .int .i64 0, .int .i64 0, .int .i64 0, .bool true, .int .i64 craft, .int .i64 0, .int .i64 to, .int .i64 re, .int .i64 1, .slice none 0 0, .int .i64 0, .int .i64 0, .int .i64 0] 216 (0, 0)) :: (recL size fi ar u0 u1 u2 ++ (blkP tq (.cells #[.bool true, .int .i64 0, .int .i64 T, .slice none 0 0] 211 (0, 0)) :: (couL 1 fc ft fr c m1 m2 m3 q m))))) ++ l) w' := by
  have HS := hid (hs.alloc hl (.cells #[.int .i64 craft, .int .i64 win, .int .i64 size, .int .i64 to, .int .i64 re, .int .i64 fc, .int .i64 ft, .int .i64 fr] 31))
  have HL := hid (stabC (blkP_stable w.heap.size (.cells #[.int .i64 craft, .int .i64 win, .int .i64 size, .int .i64 to, .int .i64 re, .int .i64 fc, .int .i64 ft, .int .i64 fr] 31 (0, 0))) hl)
  have H1 := hid h1
  have H2 := hid h2
  have H3 := hid h3
  have H4 := hid h4
  have H5 := hid h5
  have H6 := hid h6
  have H7 := hid h7
  have H8 := hid h8
  have HT := hid hT2
  have HTW := hid (show IntKind.i64.wrap (to * (re + 1)) = T by rw [hT, IntKind.wrap_i64]; omega)
  have hr1 : IntKind.i64.wrap (re + 1) = re + 1 := by rw [IntKind.wrap_i64]; omega
  clear hs h1 h2 h3 h4 h5 h6 h7 h8 hT hT2
  go_enter Tryz.func9, Tryz.ntmps9
  go_wp2_with (first | (refine wpList_ldS rfl (.tmp 1) 31 rfl rfl (.agg #[.int .i64 craft, .int .i64 win, .int .i64 size, .int .i64 to, .int .i64 re, .int .i64 fc, .int .i64 ft, .int .i64 fr]) (ldSta HS.out) ?_) | (go_at_call 37; refine (cValidT HL.out craft win size to re fc ft fr HS.out H1.out H2.out H3.out H4.out H5.out H6.out H7.out H8.out).mono ?_; rintro e w2 ⟨rfl, h⟩; have HV := hid h; clear h; have j5 := (Sts.boxCell HV.out 5 _ rfl).1; have j6 := (Sts.boxCell HV.out 6 _ rfl).1; have j7 := (Sts.boxCell HV.out 7 _ rfl).1) | (go_at_call 38; refine (cEntity HL.out fc ft fr HV.out H6.out H7.out H8.out).mono ?_; rintro e w4 ⟨c, m1, m2, m3, q, m, rfl, h⟩; have HE := hid h; clear h j5 j6 j7))
  have HLB := hid (stabCou 1 fc ft fr c m1 m2 m3 q m HL.out)
  refine wp_region_ord (.pure 0 (.pure 1 (.pure 2 (.pure 3 (.pure 4 (.pure 5 (.pure 6 (.pure 7 (.pure 9 (.pure 11 (.pure 12 (.pure 14 (.pure 15 (.pure 16 (.pure 17 (.pure 18 (.pure 19 (.pure 20 (.pure 21 (.eff2 8 13 (.eff2 10 13 (.eff2 13 22 (.eff 22 (.pure 23 (.eff 24 (.pure 25 (.pure 26 .nil))))) (.eff 13 (.pure 23 (.eff 24 (.pure 25 (.pure 26 .nil)))))) (.eff 10 (.eff 22 (.pure 23 (.eff 24 (.pure 25 (.pure 26 .nil))))))) (.eff 8 (.eff 10 (.eff 22 (.pure 23 (.eff 24 (.pure 25 (.pure 26 .nil))))))))))))))))))))))))))) (cfgD w.heap.size #[.int .i64 craft, .int .i64 win, .int .i64 size, .int .i64 to, .int .i64 re, .int .i64 fc, .int .i64 ft, .int .i64 fr]) (fun y => Sts W (couL 1 fc ft fr c m1 m2 m3 q m ++ (blkP w.heap.size (.cells #[.int .i64 craft, .int .i64 win, .int .i64 size, .int .i64 to, .int .i64 re, .int .i64 fc, .int .i64 ft, .int .i64 fr] 31 (0, 0)) :: l)) y) (by kernel_rfl) (by kernel_rfl) (HE.out.drew HLB.out) (fun z hz => cfg_of (couL 1 fc ft fr c m1 m2 m3 q m) hz) ?_
  iterate 19
    (apply ord_pure (ho := rfl)
     · go_simp
     · intro x hx; have k0 := hx 0 _ rfl; have k1 := hx 1 _ rfl; have k2 := hx 2 _ rfl; have k3 := hx 3 _ rfl; have k4 := hx 4 _ rfl; clear hx; have hw := HTW.out; go_simp; rfl
     apply ord_norm
     · go_simp; rfl)
  refine ord_eff2 ?_ ?_
  · apply ord_eff (ho := rfl)
    · go_simp
    intro y hy
    refine eff_call (f := 40) (by go_simp) (cTrkNew HLB.out hy T HT.out.1 HT.out.2) ?_
    rintro e w3 ⟨tq, rfl, h3⟩
    refine ⟨_, rfl, (cfgD w.heap.size #[.int .i64 craft, .int .i64 win, .int .i64 size, .int .i64 to, .int .i64 re, .int .i64 fc, .int .i64 ft, .int .i64 fr]), (fun y => Sts W (blkP tq (.cells #[.bool true, .int .i64 0, .int .i64 T, .slice none 0 0] 211 (0, 0)) :: (couL 1 fc ft fr c m1 m2 m3 q m ++ (blkP w.heap.size (.cells #[.int .i64 craft, .int .i64 win, .int .i64 size, .int .i64 to, .int .i64 re, .int .i64 fc, .int .i64 ft, .int .i64 fr] 31 (0, 0)) :: l))) y), h3, (fun z hz => cfg_of (blkP tq (.cells #[.bool true, .int .i64 0, .int .i64 T, .slice none 0 0] 211 (0, 0)) :: (couL 1 fc ft fr c m1 m2 m3 q m)) hz), (fun _ h => h), ?_⟩
    clear h3 hy y
    apply ord_norm
    · go_simp; rfl
    refine ord_eff2 ?_ ?_
    · apply ord_eff (ho := rfl)
      · go_simp
      intro y hy
      refine eff_call (f := 39) (by go_simp) (cRecNew (stabC (blkP_stable _ _) HLB.out) size (some ⟨tq, 0, none⟩) (some ⟨c, 0, none⟩) hy (by have := H3.out; omega) (by have := H3.out; omega)) ?_
      rintro e w3 ⟨fi, ar, u0, u1, u2, rfl, h3⟩
      refine ⟨_, rfl, (cfgD w.heap.size #[.int .i64 craft, .int .i64 win, .int .i64 size, .int .i64 to, .int .i64 re, .int .i64 fc, .int .i64 ft, .int .i64 fr]), (fun y => Sts W (recL size fi ar u0 u1 u2 ++ (blkP tq (.cells #[.bool true, .int .i64 0, .int .i64 T, .slice none 0 0] 211 (0, 0)) :: (couL 1 fc ft fr c m1 m2 m3 q m ++ (blkP w.heap.size (.cells #[.int .i64 craft, .int .i64 win, .int .i64 size, .int .i64 to, .int .i64 re, .int .i64 fc, .int .i64 ft, .int .i64 fr] 31 (0, 0)) :: l)))) y), h3, (fun z hz => cfg_of (recL size fi ar u0 u1 u2 ++ (blkP tq (.cells #[.bool true, .int .i64 0, .int .i64 T, .slice none 0 0] 211 (0, 0)) :: (couL 1 fc ft fr c m1 m2 m3 q m))) hz), (fun _ h => h), ?_⟩
      clear h3 hy y
      apply ord_norm
      · go_simp; rfl
      refine ord_eff2 ?_ ?_
      · apply ord_eff (ho := rfl)
        · go_simp
        intro y hy
        refine eff_mapS (stabRec _ _ _ _ _ _ (stabC (blkP_stable _ _) HLB.out)) hy rfl (cfgD w.heap.size #[.int .i64 craft, .int .i64 win, .int .i64 size, .int .i64 to, .int .i64 re, .int .i64 fc, .int .i64 ft, .int .i64 fr]) (fun mp z hz => cfg_of (blkP mp (.map #[] 0) :: (recL size fi ar u0 u1 u2 ++ (blkP tq (.cells #[.bool true, .int .i64 0, .int .i64 T, .slice none 0 0] 211 (0, 0)) :: (couL 1 fc ft fr c m1 m2 m3 q m)))) hz) (fun _ h => h) ?_
        intro mp
        clear hy y
        apply ord_norm
        · go_simp; rfl
        apply ord_eff (ho := rfl)
        · go_simp
        intro y hy
        refine eff_call (f := 41) (by go_simp) (cFopNew (stabC (blkP_stable _ _) (stabRec _ _ _ _ _ _ (stabC (blkP_stable _ _) HLB.out))) hy craft 0 win to re H1.out (by omega) H2.out (by have := H4.out; omega) (by have := H5.out; omega)) ?_
        rintro e w3 ⟨fq, rfl, h3⟩
        refine ⟨_, rfl, (cfgD w.heap.size #[.int .i64 craft, .int .i64 win, .int .i64 size, .int .i64 to, .int .i64 re, .int .i64 fc, .int .i64 ft, .int .i64 fr]), (fun y => Sts W (blkP fq (.cells #[.int .i64 win, .slice none 0 0, .int .i64 0, .int .i64 0, .int .i64 0, .bool true, .int .i64 craft, .int .i64 0, .int .i64 to, .int .i64 re, .int .i64 1, .slice none 0 0, .int .i64 0, .int .i64 0, .int .i64 0] 216 (0, 0)) :: (blkP mp (.map #[] 0) :: (recL size fi ar u0 u1 u2 ++ (blkP tq (.cells #[.bool true, .int .i64 0, .int .i64 T, .slice none 0 0] 211 (0, 0)) :: (couL 1 fc ft fr c m1 m2 m3 q m ++ (blkP w.heap.size (.cells #[.int .i64 craft, .int .i64 win, .int .i64 size, .int .i64 to, .int .i64 re, .int .i64 fc, .int .i64 ft, .int .i64 fr] 31 (0, 0)) :: l)))))) y), h3, (fun z hz => cfg_of (blkP fq (.cells #[.int .i64 win, .slice none 0 0, .int .i64 0, .int .i64 0, .int .i64 0, .bool true, .int .i64 craft, .int .i64 0, .int .i64 to, .int .i64 re, .int .i64 1, .slice none 0 0, .int .i64 0, .int .i64 0, .int .i64 0] 216 (0, 0)) :: (blkP mp (.map #[] 0) :: (recL size fi ar u0 u1 u2 ++ (blkP tq (.cells #[.bool true, .int .i64 0, .int .i64 T, .slice none 0 0] 211 (0, 0)) :: (couL 1 fc ft fr c m1 m2 m3 q m))))) hz), (fun _ h => h), ?_⟩
        clear h3 hy y
        apply ord_norm
        · go_simp; rfl
        apply ord_pure (ho := rfl)
        · go_simp
        · intro x hx; go_simp; rfl
        apply ord_norm
        · go_simp; rfl
        apply ord_eff (ho := rfl)
        · go_simp
        intro y hy
        refine eff_boxS (stabC (blkP_stable _ _) (stabC (blkP_stable _ _) (stabRec _ _ _ _ _ _ (stabC (blkP_stable _ _) HLB.out)))) hy rfl rfl (fun g z hz => cfg_of (_ :: (blkP fq (.cells #[.int .i64 win, .slice none 0 0, .int .i64 0, .int .i64 0, .int .i64 0, .bool true, .int .i64 craft, .int .i64 0, .int .i64 to, .int .i64 re, .int .i64 1, .slice none 0 0, .int .i64 0, .int .i64 0, .int .i64 0] 216 (0, 0)) :: (blkP mp (.map #[] 0) :: (recL size fi ar u0 u1 u2 ++ (blkP tq (.cells #[.bool true, .int .i64 0, .int .i64 T, .slice none 0 0] 211 (0, 0)) :: (couL 1 fc ft fr c m1 m2 m3 q m)))))) hz) ?_
        intro g
        clear hy y
        apply ord_norm
        · go_simp; rfl
        apply ord_pure (ho := rfl)
        · go_simp
        · intro x hx; go_simp; rfl
        apply ord_norm
        · go_simp; rfl
        apply ord_pure (ho := rfl)
        · go_simp
        · intro x hx; go_simp; rfl
        apply ord_norm
        · go_simp; rfl
        refine ord_nil fun z hz => ?_
        have HZ := hid (sts_drop (blkP g (.cells #[.pointer (some ⟨fi, 0, none⟩), .pointer (some ⟨u0, 0, none⟩), .pointer (some ⟨u1, 0, none⟩), .pointer (some ⟨u2, 0, none⟩), .pointer (some ⟨ar, 0, none⟩), .pointer (some ⟨tq, 0, none⟩), .pointer (some ⟨c, 0, none⟩), .bool true, .int .i64 craft, .int .i64 0, .pointer (some ⟨fq, 0, none⟩), .int .i64 1, .map (some mp)] 119 (0, 0)) :: (blkP mp (.map #[] 0) :: (blkP fq (.cells #[.int .i64 win, .slice none 0 0, .int .i64 0, .int .i64 0, .int .i64 0, .bool true, .int .i64 craft, .int .i64 0, .int .i64 to, .int .i64 re, .int .i64 1, .slice none 0 0, .int .i64 0, .int .i64 0, .int .i64 0] 216 (0, 0)) :: (recL size fi ar u0 u1 u2 ++ (blkP tq (.cells #[.bool true, .int .i64 0, .int .i64 T, .slice none 0 0] 211 (0, 0)) :: (couL 1 fc ft fr c m1 m2 m3 q m)))))) (show Sts W ((blkP g (.cells #[.pointer (some ⟨fi, 0, none⟩), .pointer (some ⟨u0, 0, none⟩), .pointer (some ⟨u1, 0, none⟩), .pointer (some ⟨u2, 0, none⟩), .pointer (some ⟨ar, 0, none⟩), .pointer (some ⟨tq, 0, none⟩), .pointer (some ⟨c, 0, none⟩), .bool true, .int .i64 craft, .int .i64 0, .pointer (some ⟨fq, 0, none⟩), .int .i64 1, .map (some mp)] 119 (0, 0)) :: (blkP mp (.map #[] 0) :: (blkP fq (.cells #[.int .i64 win, .slice none 0 0, .int .i64 0, .int .i64 0, .int .i64 0, .bool true, .int .i64 craft, .int .i64 0, .int .i64 to, .int .i64 re, .int .i64 1, .slice none 0 0, .int .i64 0, .int .i64 0, .int .i64 0] 216 (0, 0)) :: (recL size fi ar u0 u1 u2 ++ (blkP tq (.cells #[.bool true, .int .i64 0, .int .i64 T, .slice none 0 0] 211 (0, 0)) :: (couL 1 fc ft fr c m1 m2 m3 q m)))))) ++ (blkP w.heap.size (.cells #[.int .i64 craft, .int .i64 win, .int .i64 size, .int .i64 to, .int .i64 re, .int .i64 fc, .int .i64 ft, .int .i64 fr] 31 (0, 0)) :: l)) z from by have h := hz.perm (List.Perm.cons _ (show List.Perm ((blkP fq (.cells #[.int .i64 win, .slice none 0 0, .int .i64 0, .int .i64 0, .int .i64 0, .bool true, .int .i64 craft, .int .i64 0, .int .i64 to, .int .i64 re, .int .i64 1, .slice none 0 0, .int .i64 0, .int .i64 0, .int .i64 0] 216 (0, 0)) :: (blkP mp (.map #[] 0) :: (recL size fi ar u0 u1 u2 ++ (blkP tq (.cells #[.bool true, .int .i64 0, .int .i64 T, .slice none 0 0] 211 (0, 0)) :: (couL 1 fc ft fr c m1 m2 m3 q m ++ (blkP w.heap.size (.cells #[.int .i64 craft, .int .i64 win, .int .i64 size, .int .i64 to, .int .i64 re, .int .i64 fc, .int .i64 ft, .int .i64 fr] 31 (0, 0)) :: l))))))) (blkP mp (.map #[] 0) :: (([blkP fq (.cells #[.int .i64 win, .slice none 0 0, .int .i64 0, .int .i64 0, .int .i64 0, .bool true, .int .i64 craft, .int .i64 0, .int .i64 to, .int .i64 re, .int .i64 1, .slice none 0 0, .int .i64 0, .int .i64 0, .int .i64 0] 216 (0, 0))]) ++ (recL size fi ar u0 u1 u2 ++ (blkP tq (.cells #[.bool true, .int .i64 0, .int .i64 T, .slice none 0 0] 211 (0, 0)) :: (couL 1 fc ft fr c m1 m2 m3 q m ++ (blkP w.heap.size (.cells #[.int .i64 craft, .int .i64 win, .int .i64 size, .int .i64 to, .int .i64 re, .int .i64 fc, .int .i64 ft, .int .i64 fr] 31 (0, 0)) :: l)))))) from by have p := List.perm_middle (a := blkP mp (.map #[] 0)) (l₁ := [blkP fq (.cells #[.int .i64 win, .slice none 0 0, .int .i64 0, .int .i64 0, .int .i64 0, .bool true, .int .i64 craft, .int .i64 0, .int .i64 to, .int .i64 re, .int .i64 1, .slice none 0 0, .int .i64 0, .int .i64 0, .int .i64 0] 216 (0, 0))]) (l₂ := (recL size fi ar u0 u1 u2 ++ (blkP tq (.cells #[.bool true, .int .i64 0, .int .i64 T, .slice none 0 0] 211 (0, 0)) :: (couL 1 fc ft fr c m1 m2 m3 q m ++ (blkP w.heap.size (.cells #[.int .i64 craft, .int .i64 win, .int .i64 size, .int .i64 to, .int .i64 re, .int .i64 fc, .int .i64 ft, .int .i64 fr] 31 (0, 0)) :: l))))); simp only [recL, couL, List.cons_append, List.nil_append, List.append_assoc] at p ⊢; exact p)); simp only [recL, couL, List.cons_append, List.nil_append] at h ⊢; exact h))
        clear hz
        go_wp2_with fail
        go_ret2
        exact ⟨g, fi, u0, u1, u2, ar, tq, c, fq, mp, m1, m2, m3, q, m, rfl, HZ.out⟩
      · apply ord_eff (ho := rfl)
        · go_simp
        intro y hy
        refine eff_call (f := 41) (by go_simp) (cFopNew (stabRec _ _ _ _ _ _ (stabC (blkP_stable _ _) HLB.out)) hy craft 0 win to re H1.out (by omega) H2.out (by have := H4.out; omega) (by have := H5.out; omega)) ?_
        rintro e w3 ⟨fq, rfl, h3⟩
        refine ⟨_, rfl, (cfgD w.heap.size #[.int .i64 craft, .int .i64 win, .int .i64 size, .int .i64 to, .int .i64 re, .int .i64 fc, .int .i64 ft, .int .i64 fr]), (fun y => Sts W (blkP fq (.cells #[.int .i64 win, .slice none 0 0, .int .i64 0, .int .i64 0, .int .i64 0, .bool true, .int .i64 craft, .int .i64 0, .int .i64 to, .int .i64 re, .int .i64 1, .slice none 0 0, .int .i64 0, .int .i64 0, .int .i64 0] 216 (0, 0)) :: (recL size fi ar u0 u1 u2 ++ (blkP tq (.cells #[.bool true, .int .i64 0, .int .i64 T, .slice none 0 0] 211 (0, 0)) :: (couL 1 fc ft fr c m1 m2 m3 q m ++ (blkP w.heap.size (.cells #[.int .i64 craft, .int .i64 win, .int .i64 size, .int .i64 to, .int .i64 re, .int .i64 fc, .int .i64 ft, .int .i64 fr] 31 (0, 0)) :: l))))) y), h3, (fun z hz => cfg_of (blkP fq (.cells #[.int .i64 win, .slice none 0 0, .int .i64 0, .int .i64 0, .int .i64 0, .bool true, .int .i64 craft, .int .i64 0, .int .i64 to, .int .i64 re, .int .i64 1, .slice none 0 0, .int .i64 0, .int .i64 0, .int .i64 0] 216 (0, 0)) :: (recL size fi ar u0 u1 u2 ++ (blkP tq (.cells #[.bool true, .int .i64 0, .int .i64 T, .slice none 0 0] 211 (0, 0)) :: (couL 1 fc ft fr c m1 m2 m3 q m)))) hz), (fun _ h => h), ?_⟩
        clear h3 hy y
        apply ord_norm
        · go_simp; rfl
        apply ord_eff (ho := rfl)
        · go_simp
        intro y hy
        refine eff_mapS (stabC (blkP_stable _ _) (stabRec _ _ _ _ _ _ (stabC (blkP_stable _ _) HLB.out))) hy rfl (cfgD w.heap.size #[.int .i64 craft, .int .i64 win, .int .i64 size, .int .i64 to, .int .i64 re, .int .i64 fc, .int .i64 ft, .int .i64 fr]) (fun mp z hz => cfg_of (blkP mp (.map #[] 0) :: (blkP fq (.cells #[.int .i64 win, .slice none 0 0, .int .i64 0, .int .i64 0, .int .i64 0, .bool true, .int .i64 craft, .int .i64 0, .int .i64 to, .int .i64 re, .int .i64 1, .slice none 0 0, .int .i64 0, .int .i64 0, .int .i64 0] 216 (0, 0)) :: (recL size fi ar u0 u1 u2 ++ (blkP tq (.cells #[.bool true, .int .i64 0, .int .i64 T, .slice none 0 0] 211 (0, 0)) :: (couL 1 fc ft fr c m1 m2 m3 q m))))) hz) (fun _ h => h) ?_
        intro mp
        clear hy y
        apply ord_norm
        · go_simp; rfl
        apply ord_pure (ho := rfl)
        · go_simp
        · intro x hx; go_simp; rfl
        apply ord_norm
        · go_simp; rfl
        apply ord_eff (ho := rfl)
        · go_simp
        intro y hy
        refine eff_boxS (stabC (blkP_stable _ _) (stabC (blkP_stable _ _) (stabRec _ _ _ _ _ _ (stabC (blkP_stable _ _) HLB.out)))) hy rfl rfl (fun g z hz => cfg_of (_ :: (blkP mp (.map #[] 0) :: (blkP fq (.cells #[.int .i64 win, .slice none 0 0, .int .i64 0, .int .i64 0, .int .i64 0, .bool true, .int .i64 craft, .int .i64 0, .int .i64 to, .int .i64 re, .int .i64 1, .slice none 0 0, .int .i64 0, .int .i64 0, .int .i64 0] 216 (0, 0)) :: (recL size fi ar u0 u1 u2 ++ (blkP tq (.cells #[.bool true, .int .i64 0, .int .i64 T, .slice none 0 0] 211 (0, 0)) :: (couL 1 fc ft fr c m1 m2 m3 q m)))))) hz) ?_
        intro g
        clear hy y
        apply ord_norm
        · go_simp; rfl
        apply ord_pure (ho := rfl)
        · go_simp
        · intro x hx; go_simp; rfl
        apply ord_norm
        · go_simp; rfl
        apply ord_pure (ho := rfl)
        · go_simp
        · intro x hx; go_simp; rfl
        apply ord_norm
        · go_simp; rfl
        refine ord_nil fun z hz => ?_
        have HZ := hid (sts_drop (blkP g (.cells #[.pointer (some ⟨fi, 0, none⟩), .pointer (some ⟨u0, 0, none⟩), .pointer (some ⟨u1, 0, none⟩), .pointer (some ⟨u2, 0, none⟩), .pointer (some ⟨ar, 0, none⟩), .pointer (some ⟨tq, 0, none⟩), .pointer (some ⟨c, 0, none⟩), .bool true, .int .i64 craft, .int .i64 0, .pointer (some ⟨fq, 0, none⟩), .int .i64 1, .map (some mp)] 119 (0, 0)) :: (blkP mp (.map #[] 0) :: (blkP fq (.cells #[.int .i64 win, .slice none 0 0, .int .i64 0, .int .i64 0, .int .i64 0, .bool true, .int .i64 craft, .int .i64 0, .int .i64 to, .int .i64 re, .int .i64 1, .slice none 0 0, .int .i64 0, .int .i64 0, .int .i64 0] 216 (0, 0)) :: (recL size fi ar u0 u1 u2 ++ (blkP tq (.cells #[.bool true, .int .i64 0, .int .i64 T, .slice none 0 0] 211 (0, 0)) :: (couL 1 fc ft fr c m1 m2 m3 q m)))))) (show Sts W ((blkP g (.cells #[.pointer (some ⟨fi, 0, none⟩), .pointer (some ⟨u0, 0, none⟩), .pointer (some ⟨u1, 0, none⟩), .pointer (some ⟨u2, 0, none⟩), .pointer (some ⟨ar, 0, none⟩), .pointer (some ⟨tq, 0, none⟩), .pointer (some ⟨c, 0, none⟩), .bool true, .int .i64 craft, .int .i64 0, .pointer (some ⟨fq, 0, none⟩), .int .i64 1, .map (some mp)] 119 (0, 0)) :: (blkP mp (.map #[] 0) :: (blkP fq (.cells #[.int .i64 win, .slice none 0 0, .int .i64 0, .int .i64 0, .int .i64 0, .bool true, .int .i64 craft, .int .i64 0, .int .i64 to, .int .i64 re, .int .i64 1, .slice none 0 0, .int .i64 0, .int .i64 0, .int .i64 0] 216 (0, 0)) :: (recL size fi ar u0 u1 u2 ++ (blkP tq (.cells #[.bool true, .int .i64 0, .int .i64 T, .slice none 0 0] 211 (0, 0)) :: (couL 1 fc ft fr c m1 m2 m3 q m)))))) ++ (blkP w.heap.size (.cells #[.int .i64 craft, .int .i64 win, .int .i64 size, .int .i64 to, .int .i64 re, .int .i64 fc, .int .i64 ft, .int .i64 fr] 31 (0, 0)) :: l)) z from hz))
        clear hz
        go_wp2_with fail
        go_ret2
        exact ⟨g, fi, u0, u1, u2, ar, tq, c, fq, mp, m1, m2, m3, q, m, rfl, HZ.out⟩
    · apply ord_eff (ho := rfl)
      · go_simp
      intro y hy
      refine eff_mapS (stabC (blkP_stable _ _) HLB.out) hy rfl (cfgD w.heap.size #[.int .i64 craft, .int .i64 win, .int .i64 size, .int .i64 to, .int .i64 re, .int .i64 fc, .int .i64 ft, .int .i64 fr]) (fun mp z hz => cfg_of (blkP mp (.map #[] 0) :: (blkP tq (.cells #[.bool true, .int .i64 0, .int .i64 T, .slice none 0 0] 211 (0, 0)) :: (couL 1 fc ft fr c m1 m2 m3 q m))) hz) (fun _ h => h) ?_
      intro mp
      clear hy y
      apply ord_norm
      · go_simp; rfl
      apply ord_eff (ho := rfl)
      · go_simp
      intro y hy
      refine eff_call (f := 39) (by go_simp) (cRecNew (stabC (blkP_stable _ _) (stabC (blkP_stable _ _) HLB.out)) size (some ⟨tq, 0, none⟩) (some ⟨c, 0, none⟩) hy (by have := H3.out; omega) (by have := H3.out; omega)) ?_
      rintro e w3 ⟨fi, ar, u0, u1, u2, rfl, h3⟩
      refine ⟨_, rfl, (cfgD w.heap.size #[.int .i64 craft, .int .i64 win, .int .i64 size, .int .i64 to, .int .i64 re, .int .i64 fc, .int .i64 ft, .int .i64 fr]), (fun y => Sts W (recL size fi ar u0 u1 u2 ++ (blkP mp (.map #[] 0) :: (blkP tq (.cells #[.bool true, .int .i64 0, .int .i64 T, .slice none 0 0] 211 (0, 0)) :: (couL 1 fc ft fr c m1 m2 m3 q m ++ (blkP w.heap.size (.cells #[.int .i64 craft, .int .i64 win, .int .i64 size, .int .i64 to, .int .i64 re, .int .i64 fc, .int .i64 ft, .int .i64 fr] 31 (0, 0)) :: l))))) y), h3, (fun z hz => cfg_of (recL size fi ar u0 u1 u2 ++ (blkP mp (.map #[] 0) :: (blkP tq (.cells #[.bool true, .int .i64 0, .int .i64 T, .slice none 0 0] 211 (0, 0)) :: (couL 1 fc ft fr c m1 m2 m3 q m)))) hz), (fun _ h => h), ?_⟩
      clear h3 hy y
      apply ord_norm
      · go_simp; rfl
      apply ord_eff (ho := rfl)
      · go_simp
      intro y hy
      refine eff_call (f := 41) (by go_simp) (cFopNew (stabRec _ _ _ _ _ _ (stabC (blkP_stable _ _) (stabC (blkP_stable _ _) HLB.out))) hy craft 0 win to re H1.out (by omega) H2.out (by have := H4.out; omega) (by have := H5.out; omega)) ?_
      rintro e w3 ⟨fq, rfl, h3⟩
      refine ⟨_, rfl, (cfgD w.heap.size #[.int .i64 craft, .int .i64 win, .int .i64 size, .int .i64 to, .int .i64 re, .int .i64 fc, .int .i64 ft, .int .i64 fr]), (fun y => Sts W (blkP fq (.cells #[.int .i64 win, .slice none 0 0, .int .i64 0, .int .i64 0, .int .i64 0, .bool true, .int .i64 craft, .int .i64 0, .int .i64 to, .int .i64 re, .int .i64 1, .slice none 0 0, .int .i64 0, .int .i64 0, .int .i64 0] 216 (0, 0)) :: (recL size fi ar u0 u1 u2 ++ (blkP mp (.map #[] 0) :: (blkP tq (.cells #[.bool true, .int .i64 0, .int .i64 T, .slice none 0 0] 211 (0, 0)) :: (couL 1 fc ft fr c m1 m2 m3 q m ++ (blkP w.heap.size (.cells #[.int .i64 craft, .int .i64 win, .int .i64 size, .int .i64 to, .int .i64 re, .int .i64 fc, .int .i64 ft, .int .i64 fr] 31 (0, 0)) :: l)))))) y), h3, (fun z hz => cfg_of (blkP fq (.cells #[.int .i64 win, .slice none 0 0, .int .i64 0, .int .i64 0, .int .i64 0, .bool true, .int .i64 craft, .int .i64 0, .int .i64 to, .int .i64 re, .int .i64 1, .slice none 0 0, .int .i64 0, .int .i64 0, .int .i64 0] 216 (0, 0)) :: (recL size fi ar u0 u1 u2 ++ (blkP mp (.map #[] 0) :: (blkP tq (.cells #[.bool true, .int .i64 0, .int .i64 T, .slice none 0 0] 211 (0, 0)) :: (couL 1 fc ft fr c m1 m2 m3 q m))))) hz), (fun _ h => h), ?_⟩
      clear h3 hy y
      apply ord_norm
      · go_simp; rfl
      apply ord_pure (ho := rfl)
      · go_simp
      · intro x hx; go_simp; rfl
      apply ord_norm
      · go_simp; rfl
      apply ord_eff (ho := rfl)
      · go_simp
      intro y hy
      refine eff_boxS (stabC (blkP_stable _ _) (stabRec _ _ _ _ _ _ (stabC (blkP_stable _ _) (stabC (blkP_stable _ _) HLB.out)))) hy rfl rfl (fun g z hz => cfg_of (_ :: (blkP fq (.cells #[.int .i64 win, .slice none 0 0, .int .i64 0, .int .i64 0, .int .i64 0, .bool true, .int .i64 craft, .int .i64 0, .int .i64 to, .int .i64 re, .int .i64 1, .slice none 0 0, .int .i64 0, .int .i64 0, .int .i64 0] 216 (0, 0)) :: (recL size fi ar u0 u1 u2 ++ (blkP mp (.map #[] 0) :: (blkP tq (.cells #[.bool true, .int .i64 0, .int .i64 T, .slice none 0 0] 211 (0, 0)) :: (couL 1 fc ft fr c m1 m2 m3 q m)))))) hz) ?_
      intro g
      clear hy y
      apply ord_norm
      · go_simp; rfl
      apply ord_pure (ho := rfl)
      · go_simp
      · intro x hx; go_simp; rfl
      apply ord_norm
      · go_simp; rfl
      apply ord_pure (ho := rfl)
      · go_simp
      · intro x hx; go_simp; rfl
      apply ord_norm
      · go_simp; rfl
      refine ord_nil fun z hz => ?_
      have HZ := hid (sts_drop (blkP g (.cells #[.pointer (some ⟨fi, 0, none⟩), .pointer (some ⟨u0, 0, none⟩), .pointer (some ⟨u1, 0, none⟩), .pointer (some ⟨u2, 0, none⟩), .pointer (some ⟨ar, 0, none⟩), .pointer (some ⟨tq, 0, none⟩), .pointer (some ⟨c, 0, none⟩), .bool true, .int .i64 craft, .int .i64 0, .pointer (some ⟨fq, 0, none⟩), .int .i64 1, .map (some mp)] 119 (0, 0)) :: (blkP mp (.map #[] 0) :: (blkP fq (.cells #[.int .i64 win, .slice none 0 0, .int .i64 0, .int .i64 0, .int .i64 0, .bool true, .int .i64 craft, .int .i64 0, .int .i64 to, .int .i64 re, .int .i64 1, .slice none 0 0, .int .i64 0, .int .i64 0, .int .i64 0] 216 (0, 0)) :: (recL size fi ar u0 u1 u2 ++ (blkP tq (.cells #[.bool true, .int .i64 0, .int .i64 T, .slice none 0 0] 211 (0, 0)) :: (couL 1 fc ft fr c m1 m2 m3 q m)))))) (show Sts W ((blkP g (.cells #[.pointer (some ⟨fi, 0, none⟩), .pointer (some ⟨u0, 0, none⟩), .pointer (some ⟨u1, 0, none⟩), .pointer (some ⟨u2, 0, none⟩), .pointer (some ⟨ar, 0, none⟩), .pointer (some ⟨tq, 0, none⟩), .pointer (some ⟨c, 0, none⟩), .bool true, .int .i64 craft, .int .i64 0, .pointer (some ⟨fq, 0, none⟩), .int .i64 1, .map (some mp)] 119 (0, 0)) :: (blkP mp (.map #[] 0) :: (blkP fq (.cells #[.int .i64 win, .slice none 0 0, .int .i64 0, .int .i64 0, .int .i64 0, .bool true, .int .i64 craft, .int .i64 0, .int .i64 to, .int .i64 re, .int .i64 1, .slice none 0 0, .int .i64 0, .int .i64 0, .int .i64 0] 216 (0, 0)) :: (recL size fi ar u0 u1 u2 ++ (blkP tq (.cells #[.bool true, .int .i64 0, .int .i64 T, .slice none 0 0] 211 (0, 0)) :: (couL 1 fc ft fr c m1 m2 m3 q m)))))) ++ (blkP w.heap.size (.cells #[.int .i64 craft, .int .i64 win, .int .i64 size, .int .i64 to, .int .i64 re, .int .i64 fc, .int .i64 ft, .int .i64 fr] 31 (0, 0)) :: l)) z from by have h := hz.perm (List.Perm.cons _ (show List.Perm ((blkP fq (.cells #[.int .i64 win, .slice none 0 0, .int .i64 0, .int .i64 0, .int .i64 0, .bool true, .int .i64 craft, .int .i64 0, .int .i64 to, .int .i64 re, .int .i64 1, .slice none 0 0, .int .i64 0, .int .i64 0, .int .i64 0] 216 (0, 0)) :: (recL size fi ar u0 u1 u2 ++ (blkP mp (.map #[] 0) :: (blkP tq (.cells #[.bool true, .int .i64 0, .int .i64 T, .slice none 0 0] 211 (0, 0)) :: (couL 1 fc ft fr c m1 m2 m3 q m ++ (blkP w.heap.size (.cells #[.int .i64 craft, .int .i64 win, .int .i64 size, .int .i64 to, .int .i64 re, .int .i64 fc, .int .i64 ft, .int .i64 fr] 31 (0, 0)) :: l))))))) (blkP mp (.map #[] 0) :: ((blkP fq (.cells #[.int .i64 win, .slice none 0 0, .int .i64 0, .int .i64 0, .int .i64 0, .bool true, .int .i64 craft, .int .i64 0, .int .i64 to, .int .i64 re, .int .i64 1, .slice none 0 0, .int .i64 0, .int .i64 0, .int .i64 0] 216 (0, 0)) :: (recL size fi ar u0 u1 u2)) ++ (blkP tq (.cells #[.bool true, .int .i64 0, .int .i64 T, .slice none 0 0] 211 (0, 0)) :: (couL 1 fc ft fr c m1 m2 m3 q m ++ (blkP w.heap.size (.cells #[.int .i64 craft, .int .i64 win, .int .i64 size, .int .i64 to, .int .i64 re, .int .i64 fc, .int .i64 ft, .int .i64 fr] 31 (0, 0)) :: l))))) from by have p := List.perm_middle (a := blkP mp (.map #[] 0)) (l₁ := blkP fq (.cells #[.int .i64 win, .slice none 0 0, .int .i64 0, .int .i64 0, .int .i64 0, .bool true, .int .i64 craft, .int .i64 0, .int .i64 to, .int .i64 re, .int .i64 1, .slice none 0 0, .int .i64 0, .int .i64 0, .int .i64 0] 216 (0, 0)) :: (recL size fi ar u0 u1 u2)) (l₂ := (blkP tq (.cells #[.bool true, .int .i64 0, .int .i64 T, .slice none 0 0] 211 (0, 0)) :: (couL 1 fc ft fr c m1 m2 m3 q m ++ (blkP w.heap.size (.cells #[.int .i64 craft, .int .i64 win, .int .i64 size, .int .i64 to, .int .i64 re, .int .i64 fc, .int .i64 ft, .int .i64 fr] 31 (0, 0)) :: l)))); simp only [recL, couL, List.cons_append, List.nil_append, List.append_assoc] at p ⊢; exact p)); simp only [recL, couL, List.cons_append, List.nil_append] at h ⊢; exact h))
      clear hz
      go_wp2_with fail
      go_ret2
      exact ⟨g, fi, u0, u1, u2, ar, tq, c, fq, mp, m1, m2, m3, q, m, rfl, HZ.out⟩
  · apply ord_eff (ho := rfl)
    · go_simp
    intro y hy
    refine eff_mapS HLB.out hy rfl (cfgD w.heap.size #[.int .i64 craft, .int .i64 win, .int .i64 size, .int .i64 to, .int .i64 re, .int .i64 fc, .int .i64 ft, .int .i64 fr]) (fun mp z hz => cfg_of (blkP mp (.map #[] 0) :: (couL 1 fc ft fr c m1 m2 m3 q m)) hz) (fun _ h => h) ?_
    intro mp
    clear hy y
    apply ord_norm
    · go_simp; rfl
    apply ord_eff (ho := rfl)
    · go_simp
    intro y hy
    refine eff_call (f := 40) (by go_simp) (cTrkNew (stabC (blkP_stable _ _) HLB.out) hy T HT.out.1 HT.out.2) ?_
    rintro e w3 ⟨tq, rfl, h3⟩
    refine ⟨_, rfl, (cfgD w.heap.size #[.int .i64 craft, .int .i64 win, .int .i64 size, .int .i64 to, .int .i64 re, .int .i64 fc, .int .i64 ft, .int .i64 fr]), (fun y => Sts W (blkP tq (.cells #[.bool true, .int .i64 0, .int .i64 T, .slice none 0 0] 211 (0, 0)) :: (blkP mp (.map #[] 0) :: (couL 1 fc ft fr c m1 m2 m3 q m ++ (blkP w.heap.size (.cells #[.int .i64 craft, .int .i64 win, .int .i64 size, .int .i64 to, .int .i64 re, .int .i64 fc, .int .i64 ft, .int .i64 fr] 31 (0, 0)) :: l)))) y), h3, (fun z hz => cfg_of (blkP tq (.cells #[.bool true, .int .i64 0, .int .i64 T, .slice none 0 0] 211 (0, 0)) :: (blkP mp (.map #[] 0) :: (couL 1 fc ft fr c m1 m2 m3 q m))) hz), (fun _ h => h), ?_⟩
    clear h3 hy y
    apply ord_norm
    · go_simp; rfl
    apply ord_eff (ho := rfl)
    · go_simp
    intro y hy
    refine eff_call (f := 39) (by go_simp) (cRecNew (stabC (blkP_stable _ _) (stabC (blkP_stable _ _) HLB.out)) size (some ⟨tq, 0, none⟩) (some ⟨c, 0, none⟩) hy (by have := H3.out; omega) (by have := H3.out; omega)) ?_
    rintro e w3 ⟨fi, ar, u0, u1, u2, rfl, h3⟩
    refine ⟨_, rfl, (cfgD w.heap.size #[.int .i64 craft, .int .i64 win, .int .i64 size, .int .i64 to, .int .i64 re, .int .i64 fc, .int .i64 ft, .int .i64 fr]), (fun y => Sts W (recL size fi ar u0 u1 u2 ++ (blkP tq (.cells #[.bool true, .int .i64 0, .int .i64 T, .slice none 0 0] 211 (0, 0)) :: (blkP mp (.map #[] 0) :: (couL 1 fc ft fr c m1 m2 m3 q m ++ (blkP w.heap.size (.cells #[.int .i64 craft, .int .i64 win, .int .i64 size, .int .i64 to, .int .i64 re, .int .i64 fc, .int .i64 ft, .int .i64 fr] 31 (0, 0)) :: l))))) y), h3, (fun z hz => cfg_of (recL size fi ar u0 u1 u2 ++ (blkP tq (.cells #[.bool true, .int .i64 0, .int .i64 T, .slice none 0 0] 211 (0, 0)) :: (blkP mp (.map #[] 0) :: (couL 1 fc ft fr c m1 m2 m3 q m)))) hz), (fun _ h => h), ?_⟩
    clear h3 hy y
    apply ord_norm
    · go_simp; rfl
    apply ord_eff (ho := rfl)
    · go_simp
    intro y hy
    refine eff_call (f := 41) (by go_simp) (cFopNew (stabRec _ _ _ _ _ _ (stabC (blkP_stable _ _) (stabC (blkP_stable _ _) HLB.out))) hy craft 0 win to re H1.out (by omega) H2.out (by have := H4.out; omega) (by have := H5.out; omega)) ?_
    rintro e w3 ⟨fq, rfl, h3⟩
    refine ⟨_, rfl, (cfgD w.heap.size #[.int .i64 craft, .int .i64 win, .int .i64 size, .int .i64 to, .int .i64 re, .int .i64 fc, .int .i64 ft, .int .i64 fr]), (fun y => Sts W (blkP fq (.cells #[.int .i64 win, .slice none 0 0, .int .i64 0, .int .i64 0, .int .i64 0, .bool true, .int .i64 craft, .int .i64 0, .int .i64 to, .int .i64 re, .int .i64 1, .slice none 0 0, .int .i64 0, .int .i64 0, .int .i64 0] 216 (0, 0)) :: (recL size fi ar u0 u1 u2 ++ (blkP tq (.cells #[.bool true, .int .i64 0, .int .i64 T, .slice none 0 0] 211 (0, 0)) :: (blkP mp (.map #[] 0) :: (couL 1 fc ft fr c m1 m2 m3 q m ++ (blkP w.heap.size (.cells #[.int .i64 craft, .int .i64 win, .int .i64 size, .int .i64 to, .int .i64 re, .int .i64 fc, .int .i64 ft, .int .i64 fr] 31 (0, 0)) :: l)))))) y), h3, (fun z hz => cfg_of (blkP fq (.cells #[.int .i64 win, .slice none 0 0, .int .i64 0, .int .i64 0, .int .i64 0, .bool true, .int .i64 craft, .int .i64 0, .int .i64 to, .int .i64 re, .int .i64 1, .slice none 0 0, .int .i64 0, .int .i64 0, .int .i64 0] 216 (0, 0)) :: (recL size fi ar u0 u1 u2 ++ (blkP tq (.cells #[.bool true, .int .i64 0, .int .i64 T, .slice none 0 0] 211 (0, 0)) :: (blkP mp (.map #[] 0) :: (couL 1 fc ft fr c m1 m2 m3 q m))))) hz), (fun _ h => h), ?_⟩
    clear h3 hy y
    apply ord_norm
    · go_simp; rfl
    apply ord_pure (ho := rfl)
    · go_simp
    · intro x hx; go_simp; rfl
    apply ord_norm
    · go_simp; rfl
    apply ord_eff (ho := rfl)
    · go_simp
    intro y hy
    refine eff_boxS (stabC (blkP_stable _ _) (stabRec _ _ _ _ _ _ (stabC (blkP_stable _ _) (stabC (blkP_stable _ _) HLB.out)))) hy rfl rfl (fun g z hz => cfg_of (_ :: (blkP fq (.cells #[.int .i64 win, .slice none 0 0, .int .i64 0, .int .i64 0, .int .i64 0, .bool true, .int .i64 craft, .int .i64 0, .int .i64 to, .int .i64 re, .int .i64 1, .slice none 0 0, .int .i64 0, .int .i64 0, .int .i64 0] 216 (0, 0)) :: (recL size fi ar u0 u1 u2 ++ (blkP tq (.cells #[.bool true, .int .i64 0, .int .i64 T, .slice none 0 0] 211 (0, 0)) :: (blkP mp (.map #[] 0) :: (couL 1 fc ft fr c m1 m2 m3 q m)))))) hz) ?_
    intro g
    clear hy y
    apply ord_norm
    · go_simp; rfl
    apply ord_pure (ho := rfl)
    · go_simp
    · intro x hx; go_simp; rfl
    apply ord_norm
    · go_simp; rfl
    apply ord_pure (ho := rfl)
    · go_simp
    · intro x hx; go_simp; rfl
    apply ord_norm
    · go_simp; rfl
    refine ord_nil fun z hz => ?_
    have HZ := hid (sts_drop (blkP g (.cells #[.pointer (some ⟨fi, 0, none⟩), .pointer (some ⟨u0, 0, none⟩), .pointer (some ⟨u1, 0, none⟩), .pointer (some ⟨u2, 0, none⟩), .pointer (some ⟨ar, 0, none⟩), .pointer (some ⟨tq, 0, none⟩), .pointer (some ⟨c, 0, none⟩), .bool true, .int .i64 craft, .int .i64 0, .pointer (some ⟨fq, 0, none⟩), .int .i64 1, .map (some mp)] 119 (0, 0)) :: (blkP mp (.map #[] 0) :: (blkP fq (.cells #[.int .i64 win, .slice none 0 0, .int .i64 0, .int .i64 0, .int .i64 0, .bool true, .int .i64 craft, .int .i64 0, .int .i64 to, .int .i64 re, .int .i64 1, .slice none 0 0, .int .i64 0, .int .i64 0, .int .i64 0] 216 (0, 0)) :: (recL size fi ar u0 u1 u2 ++ (blkP tq (.cells #[.bool true, .int .i64 0, .int .i64 T, .slice none 0 0] 211 (0, 0)) :: (couL 1 fc ft fr c m1 m2 m3 q m)))))) (show Sts W ((blkP g (.cells #[.pointer (some ⟨fi, 0, none⟩), .pointer (some ⟨u0, 0, none⟩), .pointer (some ⟨u1, 0, none⟩), .pointer (some ⟨u2, 0, none⟩), .pointer (some ⟨ar, 0, none⟩), .pointer (some ⟨tq, 0, none⟩), .pointer (some ⟨c, 0, none⟩), .bool true, .int .i64 craft, .int .i64 0, .pointer (some ⟨fq, 0, none⟩), .int .i64 1, .map (some mp)] 119 (0, 0)) :: (blkP mp (.map #[] 0) :: (blkP fq (.cells #[.int .i64 win, .slice none 0 0, .int .i64 0, .int .i64 0, .int .i64 0, .bool true, .int .i64 craft, .int .i64 0, .int .i64 to, .int .i64 re, .int .i64 1, .slice none 0 0, .int .i64 0, .int .i64 0, .int .i64 0] 216 (0, 0)) :: (recL size fi ar u0 u1 u2 ++ (blkP tq (.cells #[.bool true, .int .i64 0, .int .i64 T, .slice none 0 0] 211 (0, 0)) :: (couL 1 fc ft fr c m1 m2 m3 q m)))))) ++ (blkP w.heap.size (.cells #[.int .i64 craft, .int .i64 win, .int .i64 size, .int .i64 to, .int .i64 re, .int .i64 fc, .int .i64 ft, .int .i64 fr] 31 (0, 0)) :: l)) z from by have h := hz.perm (List.Perm.cons _ (show List.Perm ((blkP fq (.cells #[.int .i64 win, .slice none 0 0, .int .i64 0, .int .i64 0, .int .i64 0, .bool true, .int .i64 craft, .int .i64 0, .int .i64 to, .int .i64 re, .int .i64 1, .slice none 0 0, .int .i64 0, .int .i64 0, .int .i64 0] 216 (0, 0)) :: (recL size fi ar u0 u1 u2 ++ (blkP tq (.cells #[.bool true, .int .i64 0, .int .i64 T, .slice none 0 0] 211 (0, 0)) :: (blkP mp (.map #[] 0) :: (couL 1 fc ft fr c m1 m2 m3 q m ++ (blkP w.heap.size (.cells #[.int .i64 craft, .int .i64 win, .int .i64 size, .int .i64 to, .int .i64 re, .int .i64 fc, .int .i64 ft, .int .i64 fr] 31 (0, 0)) :: l))))))) (blkP mp (.map #[] 0) :: ((blkP fq (.cells #[.int .i64 win, .slice none 0 0, .int .i64 0, .int .i64 0, .int .i64 0, .bool true, .int .i64 craft, .int .i64 0, .int .i64 to, .int .i64 re, .int .i64 1, .slice none 0 0, .int .i64 0, .int .i64 0, .int .i64 0] 216 (0, 0)) :: (recL size fi ar u0 u1 u2 ++ ([blkP tq (.cells #[.bool true, .int .i64 0, .int .i64 T, .slice none 0 0] 211 (0, 0))]))) ++ (couL 1 fc ft fr c m1 m2 m3 q m ++ (blkP w.heap.size (.cells #[.int .i64 craft, .int .i64 win, .int .i64 size, .int .i64 to, .int .i64 re, .int .i64 fc, .int .i64 ft, .int .i64 fr] 31 (0, 0)) :: l)))) from by have p := List.perm_middle (a := blkP mp (.map #[] 0)) (l₁ := blkP fq (.cells #[.int .i64 win, .slice none 0 0, .int .i64 0, .int .i64 0, .int .i64 0, .bool true, .int .i64 craft, .int .i64 0, .int .i64 to, .int .i64 re, .int .i64 1, .slice none 0 0, .int .i64 0, .int .i64 0, .int .i64 0] 216 (0, 0)) :: (recL size fi ar u0 u1 u2 ++ ([blkP tq (.cells #[.bool true, .int .i64 0, .int .i64 T, .slice none 0 0] 211 (0, 0))]))) (l₂ := (couL 1 fc ft fr c m1 m2 m3 q m ++ (blkP w.heap.size (.cells #[.int .i64 craft, .int .i64 win, .int .i64 size, .int .i64 to, .int .i64 re, .int .i64 fc, .int .i64 ft, .int .i64 fr] 31 (0, 0)) :: l))); simp only [recL, couL, List.cons_append, List.nil_append, List.append_assoc] at p ⊢; exact p)); simp only [recL, couL, List.cons_append, List.nil_append] at h ⊢; exact h))
    clear hz
    go_wp2_with fail
    go_ret2
    exact ⟨g, fi, u0, u1, u2, ar, tq, c, fq, mp, m1, m2, m3, q, m, rfl, HZ.out⟩
end
end Go.Proofs.YtnklmadmenkdoaaGreat
