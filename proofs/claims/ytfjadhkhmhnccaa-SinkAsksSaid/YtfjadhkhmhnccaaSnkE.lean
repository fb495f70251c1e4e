/- The receiving end: piece. -/
import Derived.Test.YtfjadhkhmhnccaaSnkM
import Derived.Test.YtfjadhkhmhnccaaApZ
import Derived.Test.YtfjadhkhmhnccaaPduValid
set_option linter.unusedVariables false
set_option linter.unusedSimpArgs false
namespace Go.Proofs.Ytfjadhkhmhnccaa
open Go.RowKit Go.Proofs.Num
theorem putK_step (g : List Rng.R) (po : Nat) (ds data : List Nat) (k m x : Nat) (hm : m = po + k) (hx : ds[k]? = some x) : Fil.putK g po ds data (k + 1) = if Rng.hasB g (m : Int) = true then Fil.putK g po ds data k else (Fil.putK g po ds data k).set m x := by
  subst hm
  show (if _ then _ else _) = _
  rw [hx]; rfl
theorem u8s_set (xs : List Nat) (i x : Nat) : (u8s xs).set i (.int .u8 (x : Nat)) = u8s (xs.set i x) := by simp [u8s, List.map_set]
theorem own_pos {w : World} {b : Nat} {e : TypeId} {s n : Nat} {v : Value} {xs : List Value} (h : w.ownsRow b e s v n xs) (hn : 0 < n) : v ≠ .slice none 0 0 := by
  intro hv
  rcases h.2 with ⟨_, h2⟩ | ⟨g, cap, cur, h2, _⟩
  · omega
  · rw [hv] at h2; injection h2 with h2; cases h2
theorem Sts.drop4 {W w : World} {A B C D : HProp} {l : List HProp} (h : Sts W (A :: B :: C :: D :: l) w) : Sts W (A :: B :: C :: l) w := (h.perm (List.perm_middle (l₁ := [A, B, C]) (l₂ := l))).tail
theorem Sts.snkR2 {W w : World} {l : List HProp} {A B : HProp} {gv : Value} {g : List Rng.R} (h : Sts W (A :: B :: rowP 81 2 gv g.length (Fil.rcells g) :: l) w) : RdR w gv g := RdR.of_own (Sts.rowOwnK h.tail.tail) rfl
section
variable {W w : World} {l : List HProp} (hl : ∀ B ∈ l, Stable B) (q : Nat) (s : Fil.Snk) (p : Fil.Pdu) (po pl to : Nat) (b off : Nat) (hs : Sts W (snkP q s :: l) w) (hpo : p.off = (po : Int)) (hpl : p.data.length = pl) (hto : (po : Int) + (pl : Int) = (to : Int)) (hbd : to ≤ 100000) (hda : p.da = some ⟨b, off, none⟩)
include hl hs hpo hpl hto hbd hda
set_option maxRecDepth 100000 in
set_option maxHeartbeats 8000000 in
theorem cPceBad (tv : Int) (ht : s.tot = (tv, true)) (hb : decide ((to : Int) > tv) = true) : Calls Try.prog 115 #[.pointer (some ⟨q, 0, none⟩), .agg p.cells] w fun e w' => e = .returned (.int .i64 4) ∧ Sts W (snkP q s :: l) w' := by
  rw [show p.cells = #[.int .i64 p.kind, .int .i64 p.src, .int .i64 p.num, .int .i64 p.cls, .string p.name, .int .i64 p.size, .int .i64 (po : Int), .slice (some ⟨b, off, none⟩) pl p.dc, .int .u32 (p.sum : Nat), .int .i64 p.code, .slice p.ga p.gaps.length p.gc] by unfold Fil.Pdu.cells; rw [hpo, hpl, hda]]
  have hls : ∀ B ∈ snkP q s :: l, Stable B := stabC (snkP_stable _ _) hl
  have hz : Sts W (blkP w.heap.size (.cells #[.int .i64 p.kind, .int .i64 p.src, .int .i64 p.num, .int .i64 p.cls, .string p.name, .int .i64 p.size, .int .i64 (po : Int), .slice (some ⟨b, off, none⟩) pl p.dc, .int .u32 (p.sum : Nat), .int .i64 p.code, .slice p.ga p.gaps.length p.gc] 45 (0, 0)) :: snkP q s :: l) (w.alloc (.cells #[.int .i64 p.kind, .int .i64 p.src, .int .i64 p.num, .int .i64 p.cls, .string p.name, .int .i64 p.size, .int .i64 (po : Int), .slice (some ⟨b, off, none⟩) pl p.dc, .int .u32 (p.sum : Nat), .int .i64 p.code, .slice p.ga p.gaps.length p.gc] 45)) := hs.alloc hls (.cells #[.int .i64 p.kind, .int .i64 p.src, .int .i64 p.num, .int .i64 p.cls, .string p.name, .int .i64 p.size, .int .i64 (po : Int), .slice (some ⟨b, off, none⟩) pl p.dc, .int .u32 (p.sum : Nat), .int .i64 p.code, .slice p.ga p.gaps.length p.gc] 45 (0, 0))
  have hbl : ∀ B ∈ blkP w.heap.size (.cells #[.int .i64 p.kind, .int .i64 p.src, .int .i64 p.num, .int .i64 p.cls, .string p.name, .int .i64 p.size, .int .i64 (po : Int), .slice (some ⟨b, off, none⟩) pl p.dc, .int .u32 (p.sum : Nat), .int .i64 p.code, .slice p.ga p.gaps.length p.gc] 45 (0, 0)) :: l, Stable B := stabC (blkP_stable _ _) hl
  have hT := cTotal q s hz.swap
  obtain ⟨dv, gv, h⟩ := Sts.openSnk hz.swap
  have p6 := (Sts.boxCell hz 6 _ rfl).1
  have p7 := (Sts.boxCell hz 7 _ rfl).1
  have HH := hid h
  have HL := hid hl
  have hwt : IntKind.i64.wrap (to : Int) = (to : Int) := i64w to (by omega)
  rw [ht] at hT
  have HT := hid hT
  clear h hz hs hls hbl hl hT ht hpo hpl hda
  go_enter Try.func115, Try.ntmps115
  go_wp2_with (first | (go_at_call 85; refine HT.out.mono ?_; rintro e w1 ⟨rfl, m, hm⟩; have H1 := hid (HH.out.quiet (stabC (blkP_stable _ _) (stabC (rowP_stable _ _ _ _ _) (stabC (rowP_stable _ _ _ _ _) (stabC (blkP_stable _ _) HL.out)))) (show Below (w.alloc (.cells #[.int .i64 p.kind, .int .i64 p.src, .int .i64 p.num, .int .i64 p.cls, .string p.name, .int .i64 p.size, .int .i64 (po : Int), .slice (some ⟨b, off, none⟩) pl p.dc, .int .u32 (p.sum : Nat), .int .i64 p.code, .slice p.ga p.gaps.length p.gc] 45)).heap.size (w.alloc (.cells #[.int .i64 p.kind, .int .i64 p.src, .int .i64 p.num, .int .i64 p.cls, .string p.name, .int .i64 p.size, .int .i64 (po : Int), .slice (some ⟨b, off, none⟩) pl p.dc, .int .u32 (p.sum : Nat), .int .i64 p.code, .slice p.ga p.gaps.length p.gc] 45)) w1 by rw [hm]; exact below_drewN (Below.refl _ _) m)); clear hm))
  go_ret
  exact ⟨rfl, (Sts.shutSnk (s := s) (dv := dv) (gv := gv) H1.out).swap.tail⟩
set_option maxRecDepth 100000 in
set_option maxHeartbeats 8000000 in
theorem cPceF (hft : s.Fit) (h9 : s.got.length < 800000) (hd : ∀ y L, Sts W (L ++ l) y → ∀ k x, p.data[k]? = some x → y.cell? ⟨b, off + k, none⟩ = some (.int .u8 (x : Nat))) (ht : s.tot.2 = false ∨ (s.tot.2 = true ∧ decide ((to : Int) > s.tot.1) = false)) (hp0 : 0 < pl) (hg : decide ((to : Int) > (s.data.length : Int)) = false) (st2 : Fil.Snk) (hs2 : (if decide (Rng.sizeV (Rng.ofV (Rng.ofV (s.got ++ [((po : Int), (to : Int))]))) > Rng.sizeV (Rng.ofV s.got)) = true then ({ s with data := Fil.putK s.got po p.data s.data pl, got := Rng.ofV (s.got ++ [((po : Int), (to : Int))]) } : Fil.Snk).prog else ({ s with data := Fil.putK s.got po p.data s.data pl, got := Rng.ofV (s.got ++ [((po : Int), (to : Int))]) } : Fil.Snk)) = st2) : Calls Try.prog 115 #[.pointer (some ⟨q, 0, none⟩), .agg p.cells] w fun e w' => e = .returned (.int .i64 0) ∧ Sts W (snkP q st2 :: l) w' := by
  have HS9 := hid hs2
  clear hs2
  rw [show p.cells = #[.int .i64 p.kind, .int .i64 p.src, .int .i64 p.num, .int .i64 p.cls, .string p.name, .int .i64 p.size, .int .i64 (po : Int), .slice (some ⟨b, off, none⟩) pl p.dc, .int .u32 (p.sum : Nat), .int .i64 p.code, .slice p.ga p.gaps.length p.gc] by unfold Fil.Pdu.cells; rw [hpo, hpl, hda]]
  have hls : ∀ B ∈ snkP q s :: l, Stable B := stabC (snkP_stable _ _) hl
  have hz : Sts W (blkP w.heap.size (.cells #[.int .i64 p.kind, .int .i64 p.src, .int .i64 p.num, .int .i64 p.cls, .string p.name, .int .i64 p.size, .int .i64 (po : Int), .slice (some ⟨b, off, none⟩) pl p.dc, .int .u32 (p.sum : Nat), .int .i64 p.code, .slice p.ga p.gaps.length p.gc] 45 (0, 0)) :: snkP q s :: l) (w.alloc (.cells #[.int .i64 p.kind, .int .i64 p.src, .int .i64 p.num, .int .i64 p.cls, .string p.name, .int .i64 p.size, .int .i64 (po : Int), .slice (some ⟨b, off, none⟩) pl p.dc, .int .u32 (p.sum : Nat), .int .i64 p.code, .slice p.ga p.gaps.length p.gc] 45)) := hs.alloc hls (.cells #[.int .i64 p.kind, .int .i64 p.src, .int .i64 p.num, .int .i64 p.cls, .string p.name, .int .i64 p.size, .int .i64 (po : Int), .slice (some ⟨b, off, none⟩) pl p.dc, .int .u32 (p.sum : Nat), .int .i64 p.code, .slice p.ga p.gaps.length p.gc] 45 (0, 0))
  have hbl : ∀ B ∈ blkP w.heap.size (.cells #[.int .i64 p.kind, .int .i64 p.src, .int .i64 p.num, .int .i64 p.cls, .string p.name, .int .i64 p.size, .int .i64 (po : Int), .slice (some ⟨b, off, none⟩) pl p.dc, .int .u32 (p.sum : Nat), .int .i64 p.code, .slice p.ga p.gaps.length p.gc] 45 (0, 0)) :: l, Stable B := stabC (blkP_stable _ _) hl
  have hT := cTotal q s hz.swap
  obtain ⟨dv, gv, h⟩ := Sts.openSnk hz.swap
  have p6 := (Sts.boxCell hz 6 _ rfl).1
  have p7 := (Sts.boxCell hz 7 _ rfl).1
  obtain ⟨da, dc, hde⟩ := (Rd.of_own (Sts.rowOwn h.tail) (u8s_len _)).eq
  rw [u8s_len] at hde
  obtain ⟨ga, gc, hge⟩ := (Sts.snkR h).eq
  subst hde
  subst hge
  have HH := hid h
  have HL := hid hl
  have hwt : IntKind.i64.wrap (to : Int) = (to : Int) := i64w to (by omega)
  have HFT := hid hft
  have H9 := hid h9
  have HD : Hid (∀ y L, Sts W (L ++ l) y → ∀ k x, p.data[k]? = some x → y.cell? ⟨b, off + k, none⟩ = some (.int .u8 (x : Nat))) := hid hd
  have HPL := hid hpl
  have hgn : ¬ s.data.length < to := by simpa using hg
  have hgd : decide (s.data.length < to) = false := decide_eq_false hgn
  clear h hz hs hls hbl hl hft hd hpl hpo hda h9
  generalize htv : s.tot = tv at hT ht
  obtain ⟨tv1, tv2⟩ := tv
  simp only [] at ht hT
  clear htv
  rcases ht with rfl | ⟨rfl, ht⟩
  all_goals
    have HT := hid hT
    clear hT
    go_enter Try.func115, Try.ntmps115
    go_wp2_with (first | (go_at_call 85; refine HT.out.mono ?_; rintro e w1 ⟨rfl, m, hm⟩; have H1 := hid (HH.out.quiet (stabC (blkP_stable _ _) (stabC (rowP_stable _ _ _ _ _) (stabC (rowP_stable _ _ _ _ _) (stabC (blkP_stable _ _) HL.out)))) (show Below (w.alloc (.cells #[.int .i64 p.kind, .int .i64 p.src, .int .i64 p.num, .int .i64 p.cls, .string p.name, .int .i64 p.size, .int .i64 (po : Int), .slice (some ⟨b, off, none⟩) pl p.dc, .int .u32 (p.sum : Nat), .int .i64 p.code, .slice p.ga p.gaps.length p.gc] 45)).heap.size (w.alloc (.cells #[.int .i64 p.kind, .int .i64 p.src, .int .i64 p.num, .int .i64 p.cls, .string p.name, .int .i64 p.size, .int .i64 (po : Int), .slice (some ⟨b, off, none⟩) pl p.dc, .int .u32 (p.sum : Nat), .int .i64 p.code, .slice p.ga p.gaps.length p.gc] 45)) w1 by rw [hm]; exact below_drewN (Below.refl _ _) m)); clear hm; clear p6 p7; have hC := Sts.snkC H1.out; have k17 := hC.k17; have k18 := hC.k18; (try dsimp only at k17 k18); clear hC; have p6 := (Sts.boxCell H1.out.tail.tail.tail 6 _ rfl).1; have p7 := (Sts.boxCell H1.out.tail.tail.tail 7 _ rfl).1))
    clear k17
    (try clear p6)
    (try clear p7)

    have hNto : to ≤ s.data.length := by omega
    obtain ⟨g, dcap, hdv, hgb⟩ := own_some (Sts.rowOwn H1.out.tail) (by intro hc; injection hc with a1 a2 a3; omega)
    injection hdv with hd1 hd2 hd3
    subst hd1
    subst hd3
    generalize dc = dcap at *
    have HY := hid H1.out
    clear hgb hg hgn hgd H1 HH
    obtain ⟨N, hN⟩ : ∃ N, s.data.length = N := ⟨_, rfl⟩
    rw [hN] at hNto
    have HN : Hid (s.data.length = N) := hid hN
    clear hN
    rw [HN.out] at HY
    refine (cSizeR _ (.slice ga s.got.length gc) s.got (Sts.snkR2 HY.out) HFT.out.hn HFT.out.hb).mono ?_
    rintro e w2 ⟨rfl, hb⟩
    have HW := hid (HY.out.quiet (stabC (blkP_stable _ _) (stabC (rowP_stable _ _ _ _ _) (stabC (rowP_stable _ _ _ _ _) (stabC (blkP_stable _ _) HL.out)))) hb)
    clear hb k18
    have p7 := (Sts.boxCell HW.out.tail.tail.tail 7 _ rfl).1
    go_wp2_with fail
    clear p7 HY
    go_loopw [58] (fun i wr => ∃ k : Nat, k ≤ pl ∧ i = .int .i64 k ∧ Sts W (blkP q (.cells (s.cells (.slice (some ⟨g, 0, none⟩) N dcap) (.slice ga s.got.length gc)) 109 (0, 0)) :: rowP 5 1 (.slice (some ⟨g, 0, none⟩) N dcap) N (u8s (Fil.putK s.got po p.data s.data k)) :: rowP 81 2 (.slice ga s.got.length gc) s.got.length (Fil.rcells s.got) :: blkP w.heap.size (.cells #[.int .i64 p.kind, .int .i64 p.src, .int .i64 p.num, .int .i64 p.cls, .string p.name, .int .i64 p.size, .int .i64 (po : Int), .slice (some ⟨b, off, none⟩) pl p.dc, .int .u32 (p.sum : Nat), .int .i64 p.code, .slice p.ga p.gaps.length p.gc] 45 (0, 0)) :: l) wr) (fun i _ => pl - (intOf i).toNat)
    case atStart => exact ⟨0, by omega, rfl, HW.out⟩
    case round =>
      obtain ⟨k, hk, rfl, hS⟩ := hrel
      clear HW
      have HS := hid hS
      clear hS
      by_cases hlt : k < pl
      · obtain ⟨x, hx0⟩ : ∃ x, p.data[k]? = some x := ⟨_, List.getElem?_eq_getElem (by rw [HPL.out]; exact hlt)⟩
        have hxc := HD.out wr [_, _, _, _] HS.out k x hx0
        obtain ⟨m, hm⟩ : ∃ m, m = po + k := ⟨_, rfl⟩
        have hpk : (po : Int) + (k : Int) = (m : Int) := by omega
        have hwm : IntKind.i64.wrap (m : Int) = (m : Int) := i64w m (by omega)
        have hmN : m < N := by omega
        have hmN0 : (0 : Int) ≤ (m : Int) := by omega
        have hmN1 : (m : Int) < (N : Int) := by omega
        have HST := hid (putK_step s.got po p.data s.data k m x hm hx0)
        clear hx0 hm
        rcases Bool.eq_false_or_eq_true (Rng.hasB s.got (m : Int)) with hh | hh
        all_goals
          have HST2 := HST.out
          rw [hh] at HST2
          first | rw [if_pos rfl] at HST2 | rw [if_neg (by decide)] at HST2
          replace HST := hid HST2
          clear HST2
          have HH2 := hid hh
          clear hh
          go_wp2_with fail
          refine wp_region_ord (.pure 0 (.pure 1 (.pure 2 (.pure 3 (.pure 4 (.pure 5 (.pure 6 (.pure 7 (.eff 8 (.pure 9 .nil)))))))))) (fun y => SnkC y q s (.slice (some ⟨g, 0, none⟩) N dcap) (.slice ga s.got.length gc) ∧ y.cell? ⟨w.heap.size, 6, none⟩ = some (.int .i64 (po : Int))) (fun y => Sts W (blkP q (.cells (s.cells (.slice (some ⟨g, 0, none⟩) N dcap) (.slice ga s.got.length gc)) 109 (0, 0)) :: rowP 5 1 (.slice (some ⟨g, 0, none⟩) N dcap) N (u8s (Fil.putK s.got po p.data s.data k)) :: rowP 81 2 (.slice ga s.got.length gc) s.got.length (Fil.rcells s.got) :: blkP w.heap.size (.cells #[.int .i64 p.kind, .int .i64 p.src, .int .i64 p.num, .int .i64 p.cls, .string p.name, .int .i64 p.size, .int .i64 (po : Int), .slice (some ⟨b, off, none⟩) pl p.dc, .int .u32 (p.sum : Nat), .int .i64 p.code, .slice p.ga p.gaps.length p.gc] 45 (0, 0)) :: l) y) (by kernel_rfl) (by kernel_rfl) (HS.out.drew (stabC (blkP_stable _ _) (stabC (rowP_stable _ _ _ _ _) (stabC (rowP_stable _ _ _ _ _) (stabC (blkP_stable _ _) HL.out))))) (fun y hy => ⟨Sts.snkC hy, (Sts.boxCell hy.tail.tail.tail 6 _ rfl).1⟩) ?_
          iterate 8
            (apply ord_pure (ho := rfl)
             · go_simp
             · intro x hx; obtain ⟨hC, hp6⟩ := hx; have k18 := hC.k18; clear hC; go_simp; rfl
             apply ord_norm
             · go_simp; rfl)
          apply ord_eff (ho := rfl)
          · go_simp
          intro y hy
          refine eff_call (f := 120) (by go_simp) (cHasR y (.slice ga s.got.length gc) s.got (Sts.snkR2 hy) HFT.out.hn (m : Int)) ?_
          rintro e w2 ⟨rfl, hb⟩
          rw [HH2.out]
          refine ⟨_, rfl, (fun y => SnkC y q s (.slice (some ⟨g, 0, none⟩) N dcap) (.slice ga s.got.length gc) ∧ y.cell? ⟨w.heap.size, 6, none⟩ = some (.int .i64 (po : Int))), (fun y => Sts W (blkP q (.cells (s.cells (.slice (some ⟨g, 0, none⟩) N dcap) (.slice ga s.got.length gc)) 109 (0, 0)) :: rowP 5 1 (.slice (some ⟨g, 0, none⟩) N dcap) N (u8s (Fil.putK s.got po p.data s.data k)) :: rowP 81 2 (.slice ga s.got.length gc) s.got.length (Fil.rcells s.got) :: blkP w.heap.size (.cells #[.int .i64 p.kind, .int .i64 p.src, .int .i64 p.num, .int .i64 p.cls, .string p.name, .int .i64 p.size, .int .i64 (po : Int), .slice (some ⟨b, off, none⟩) pl p.dc, .int .u32 (p.sum : Nat), .int .i64 p.code, .slice p.ga p.gaps.length p.gc] 45 (0, 0)) :: l) y), hy.quiet (stabC (blkP_stable _ _) (stabC (rowP_stable _ _ _ _ _) (stabC (rowP_stable _ _ _ _ _) (stabC (blkP_stable _ _) HL.out)))) hb, (fun y hy => ⟨Sts.snkC hy, (Sts.boxCell hy.tail.tail.tail 6 _ rfl).1⟩), (fun _ h => h), ?_⟩
          clear hb hy y
          apply ord_norm
          · go_simp; rfl
          iterate 1
            (apply ord_pure (ho := rfl)
             · go_simp
             · intro x hx; obtain ⟨hC, hp6⟩ := hx; skip; clear hC; go_simp; rfl
             apply ord_norm
             · go_simp; rfl)
          refine ord_nil fun z hz => ?_
          have HZ := hid hz
          clear hz
          go_wp2_with fail
        · go_roundw
          case rel => exact ⟨k + 1, by omega, by go_num, by rw [HST.out]; exact HZ.out⟩
          case measure => simp [intOf]; omega
        · clear hxc
          refine wp_region_ord (.pure 0 (.pure 1 (.pure 2 (.pure 3 (.pure 4 (.pure 5 (.pure 6 (.pure 7 (.pure 8 (.pure 9 (.eff 10 .nil))))))))))) (fun y => SnkC y q s (.slice (some ⟨g, 0, none⟩) N dcap) (.slice ga s.got.length gc) ∧ y.cell? ⟨w.heap.size, 6, none⟩ = some (.int .i64 (po : Int))) (fun y => Sts W (blkP q (.cells (s.cells (.slice (some ⟨g, 0, none⟩) N dcap) (.slice ga s.got.length gc)) 109 (0, 0)) :: rowP 5 1 (.slice (some ⟨g, 0, none⟩) N dcap) N (u8s (Fil.putK s.got po p.data s.data k)) :: rowP 81 2 (.slice ga s.got.length gc) s.got.length (Fil.rcells s.got) :: blkP w.heap.size (.cells #[.int .i64 p.kind, .int .i64 p.src, .int .i64 p.num, .int .i64 p.cls, .string p.name, .int .i64 p.size, .int .i64 (po : Int), .slice (some ⟨b, off, none⟩) pl p.dc, .int .u32 (p.sum : Nat), .int .i64 p.code, .slice p.ga p.gaps.length p.gc] 45 (0, 0)) :: l) y) (by kernel_rfl) (by kernel_rfl) (HZ.out.drew (stabC (blkP_stable _ _) (stabC (rowP_stable _ _ _ _ _) (stabC (rowP_stable _ _ _ _ _) (stabC (blkP_stable _ _) HL.out))))) (fun y hy => ⟨Sts.snkC hy, (Sts.boxCell hy.tail.tail.tail 6 _ rfl).1⟩) ?_
          iterate 10
            (apply ord_pure (ho := rfl)
             · go_simp
             · intro x hx; obtain ⟨hC, hp6⟩ := hx; have k17 := hC.k17; clear hC; go_simp; rfl
             apply ord_norm
             · go_simp; rfl)
          apply ord_eff (ho := rfl)
          · go_simp
          intro y hy
          have hln : (u8s (Fil.putK s.got po p.data s.data k)).length = N := by rw [u8s_len, Fil.putK_len]; exact HN.out
          obtain ⟨vv, hvv⟩ : ∃ vv, (u8s (Fil.putK s.got po p.data s.data k))[m]? = some vv := ⟨_, List.getElem?_eq_getElem (by rw [hln]; exact hmN)⟩
          have q1 := Sts.rowCell hy.swap m hmN vv hvv
          have q2 := Sts.rowFree hy.swap m
          have hy2 := Sts.rowStore (stabC (blkP_stable _ _) (stabC (rowP_stable _ _ _ _ _) (stabC (blkP_stable _ _) HL.out))) hy.swap m (.int .u8 (x : Nat))
          rw [u8s_set] at hy2
          clear hvv hln
          refine eff_skip (fun y => SnkC y q s (.slice (some ⟨g, 0, none⟩) N dcap) (.slice ga s.got.length gc) ∧ y.cell? ⟨w.heap.size, 6, none⟩ = some (.int .i64 (po : Int))) (fun y => Sts W (blkP q (.cells (s.cells (.slice (some ⟨g, 0, none⟩) N dcap) (.slice ga s.got.length gc)) 109 (0, 0)) :: rowP 5 1 (.slice (some ⟨g, 0, none⟩) N dcap) N (u8s ((Fil.putK s.got po p.data s.data k).set m x)) :: rowP 81 2 (.slice ga s.got.length gc) s.got.length (Fil.rcells s.got) :: blkP w.heap.size (.cells #[.int .i64 p.kind, .int .i64 p.src, .int .i64 p.num, .int .i64 p.cls, .string p.name, .int .i64 p.size, .int .i64 (po : Int), .slice (some ⟨b, off, none⟩) pl p.dc, .int .u32 (p.sum : Nat), .int .i64 p.code, .slice p.ga p.gaps.length p.gc] 45 (0, 0)) :: l) y) (w := y.setCell ⟨g, m, none⟩ (.int .u8 (x : Nat))) ?_ hy2.swap (fun y hy => ⟨Sts.snkC hy, (Sts.boxCell hy.tail.tail.tail 6 _ rfl).1⟩) (fun _ h => h) ?_
          · clear hy hy2
            go_simp
          clear hy hy2 q1 q2 y
          apply ord_norm
          · go_simp; rfl
          refine ord_nil fun z hz => ?_
          have HZ2 := hid hz
          clear hz
          go_wp2_with fail
          go_roundw
          case rel => exact ⟨k + 1, by omega, by go_num, by rw [HST.out]; exact HZ2.out⟩
          case measure => simp [intOf]; omega
      · obtain rfl : pl = k := by omega
        have HGN := hid (Rng.ofV_len (s.got ++ [((po : Int), (to : Int))]))
        have HGB : Hid (∀ r ∈ Rng.ofV (s.got ++ [((po : Int), (to : Int))]), 0 ≤ r.1 ∧ r.2 ≤ 1000000000) := hid fun r hr => by
          have := Rng.ofV_in (a := 0) (b := 1000000000) (l := s.got ++ [((po : Int), (to : Int))]) (fun r hr => by
            rcases List.mem_append.1 hr with hr | hr
            · exact HFT.out.hb r hr
            · simp at hr; subst hr; simp only []; omega) r hr
          omega
        go_wp2_with fail
        refine wp_region_ordS (fun i => i == 12) (.pure 0 (.pure 1 (.pure 2 (.pure 3 (.pure 4 (.pure 5 (.pure 6 (.pure 7 (.pure 8 (.eff 9 (.pure 10 (.pure 11 (.eff 12 .nil))))))))))))) (fun y => SnkC y q s (.slice (some ⟨g, 0, none⟩) N dcap) (.slice ga s.got.length gc) ∧ y.cell? ⟨w.heap.size, 6, none⟩ = some (.int .i64 (po : Int))) (fun y => Sts W (blkP q (.cells (s.cells (.slice (some ⟨g, 0, none⟩) N dcap) (.slice ga s.got.length gc)) 109 (0, 0)) :: rowP 5 1 (.slice (some ⟨g, 0, none⟩) N dcap) N (u8s (Fil.putK s.got po p.data s.data pl)) :: rowP 81 2 (.slice ga s.got.length gc) s.got.length (Fil.rcells s.got) :: blkP w.heap.size (.cells #[.int .i64 p.kind, .int .i64 p.src, .int .i64 p.num, .int .i64 p.cls, .string p.name, .int .i64 p.size, .int .i64 (po : Int), .slice (some ⟨b, off, none⟩) pl p.dc, .int .u32 (p.sum : Nat), .int .i64 p.code, .slice p.ga p.gaps.length p.gc] 45 (0, 0)) :: l) y) (by kernel_rfl) (by kernel_rfl) (HS.out.drew (stabC (blkP_stable _ _) (stabC (rowP_stable _ _ _ _ _) (stabC (rowP_stable _ _ _ _ _) (stabC (blkP_stable _ _) HL.out))))) (fun y hy => ⟨Sts.snkC hy, (Sts.boxCell hy.tail.tail.tail 6 _ rfl).1⟩) ?_
        iterate 9
          (apply ord_pure (ho := rfl)
           · go_simp
           · intro x hx; obtain ⟨hC, hp6⟩ := hx; have k18 := hC.k18; clear hC; go_simp; rfl
           apply ord_norm
           · go_simp; rfl)
        apply ord_eff (ho := rfl)
        · go_simp
        intro y hy
        refine eff_call (f := 108) (by go_simp) (cAddR y (.slice ga s.got.length gc) s.got (po : Int) (to : Int) (Sts.snkR2 hy) (by exact Nat.lt_trans H9.out (by decide))) ?_
        rintro e w2 ⟨r2, rfl, hN2⟩
        have hs2 := Sts.newR (stabC (blkP_stable _ _) (stabC (rowP_stable _ _ _ _ _) (stabC (rowP_stable _ _ _ _ _) (stabC (blkP_stable _ _) HL.out)))) hy hN2
        refine ⟨_, rfl, (fun y => SnkC y q s (.slice (some ⟨g, 0, none⟩) N dcap) (.slice ga s.got.length gc) ∧ y.cell? ⟨w.heap.size, 6, none⟩ = some (.int .i64 (po : Int))), (fun y => Sts W (rowP 81 2 r2 (Rng.ofV (s.got ++ [((po : Int), (to : Int))])).length (Fil.rcells (Rng.ofV (s.got ++ [((po : Int), (to : Int))]))) :: blkP q (.cells (s.cells (.slice (some ⟨g, 0, none⟩) N dcap) (.slice ga s.got.length gc)) 109 (0, 0)) :: rowP 5 1 (.slice (some ⟨g, 0, none⟩) N dcap) N (u8s (Fil.putK s.got po p.data s.data pl)) :: rowP 81 2 (.slice ga s.got.length gc) s.got.length (Fil.rcells s.got) :: blkP w.heap.size (.cells #[.int .i64 p.kind, .int .i64 p.src, .int .i64 p.num, .int .i64 p.cls, .string p.name, .int .i64 p.size, .int .i64 (po : Int), .slice (some ⟨b, off, none⟩) pl p.dc, .int .u32 (p.sum : Nat), .int .i64 p.code, .slice p.ga p.gaps.length p.gc] 45 (0, 0)) :: l) y), hs2, (fun y hy => ⟨Sts.snkC hy.tail, (Sts.boxCell hy.tail.tail.tail.tail 6 _ rfl).1⟩), (fun _ h => h), ?_⟩
        have HRE := hid hN2.rd.eq
        clear hs2 hN2 hy y
        apply ord_norm
        · go_simp; rfl
        iterate 2
          (apply ord_pure (ho := rfl)
           · go_simp
           · intro x hx; obtain ⟨hC, hp6⟩ := hx; skip; clear hC; go_simp; rfl
           apply ord_norm
           · go_simp; rfl)
        apply ord_eff (ho := rfl)
        · go_simp
        intro y hy
        obtain ⟨ra, rc, hre⟩ := HRE.out
        subst hre
        have q1 := (Sts.boxCell hy.tail 18 _ rfl).1
        have q2 := (Sts.boxCell hy.tail 18 _ rfl).2
        have hy2 := Sts.store (stabC (rowP_stable _ _ _ _ _) (stabC (rowP_stable _ _ _ _ _) (stabC (rowP_stable _ _ _ _ _) (stabC (blkP_stable _ _) HL.out)))) hy.swap (j := 18) (.slice ra (Rng.ofV (s.got ++ [((po : Int), (to : Int))])).length rc)
        refine effS_skip (fun _ => True) (fun y => Sts W (blkP q (.cells (s.cells (.slice (some ⟨g, 0, none⟩) N dcap) (.slice ra (Rng.ofV (s.got ++ [((po : Int), (to : Int))])).length rc)) 109 (0, 0)) :: rowP 81 2 (.slice ra (Rng.ofV (s.got ++ [((po : Int), (to : Int))])).length rc) (Rng.ofV (s.got ++ [((po : Int), (to : Int))])).length (Fil.rcells (Rng.ofV (s.got ++ [((po : Int), (to : Int))]))) :: rowP 5 1 (.slice (some ⟨g, 0, none⟩) N dcap) N (u8s (Fil.putK s.got po p.data s.data pl)) :: rowP 81 2 (.slice ga s.got.length gc) s.got.length (Fil.rcells s.got) :: blkP w.heap.size (.cells #[.int .i64 p.kind, .int .i64 p.src, .int .i64 p.num, .int .i64 p.cls, .string p.name, .int .i64 p.size, .int .i64 (po : Int), .slice (some ⟨b, off, none⟩) pl p.dc, .int .u32 (p.sum : Nat), .int .i64 p.code, .slice p.ga p.gaps.length p.gc] 45 (0, 0)) :: l) y) (w := y.setCell ⟨q, 18, none⟩ (.slice ra (Rng.ofV (s.got ++ [((po : Int), (to : Int))])).length rc)) rfl ?_ hy2 (fun _ _ => trivial) ?_
        · clear hy hy2
          go_simp
        clear hy hy2 q1 q2 y
        apply ord_norm
        · go_simp; rfl
        refine ord_nil fun z hz => ?_
        have hNl : N = (Fil.putK s.got po p.data s.data pl).length := by rw [Fil.putK_len]; exact HN.out.symm
        have hz3 : Sts W (snkP q ({ s with data := (Fil.putK s.got po p.data s.data pl), got := Rng.ofV (s.got ++ [((po : Int), (to : Int))]) } : Fil.Snk) :: blkP w.heap.size (.cells #[.int .i64 p.kind, .int .i64 p.src, .int .i64 p.num, .int .i64 p.cls, .string p.name, .int .i64 p.size, .int .i64 (po : Int), .slice (some ⟨b, off, none⟩) pl p.dc, .int .u32 (p.sum : Nat), .int .i64 p.code, .slice p.ga p.gaps.length p.gc] 45 (0, 0)) :: l) z := by
          have h1 := hz.perm ((List.Perm.swap _ _ _).cons _)
          have h3 := Sts.drop4 h1
          rw [hNl] at h3
          exact Sts.shutSnk (s := { s with data := (Fil.putK s.got po p.data s.data pl), got := Rng.ofV (s.got ++ [((po : Int), (to : Int))]) }) h3
        generalize hst : ({ s with data := (Fil.putK s.got po p.data s.data pl), got := Rng.ofV (s.got ++ [((po : Int), (to : Int))]) } : Fil.Snk) = st at *
        have hgt : st.got = Rng.ofV (s.got ++ [((po : Int), (to : Int))]) := by rw [← hst]
        have HZ := hid hz3
        have HP := hid (fun (y : World) (hy : Sts W (snkP q st :: blkP w.heap.size (.cells #[.int .i64 p.kind, .int .i64 p.src, .int .i64 p.num, .int .i64 p.cls, .string p.name, .int .i64 p.size, .int .i64 (po : Int), .slice (some ⟨b, off, none⟩) pl p.dc, .int .u32 (p.sum : Nat), .int .i64 p.code, .slice p.ga p.gaps.length p.gc] 45 (0, 0)) :: l) y) => cProg (W := W) (w := y) (stabC (blkP_stable _ _) HL.out) q st hy)
        obtain ⟨dv9, gv9, ho⟩ := Sts.openSnk hz3
        have HO := hid ho
        have k18 := (Sts.snkC ho).k18
        rw [← hgt] at HGN HGB
        have HGT := hid hgt
        have HST := hid hst
        clear hz hz3 ho hgt hst HS HRE
        rcases Bool.eq_false_or_eq_true (decide (Rng.sizeV (Rng.ofV st.got) > Rng.sizeV (Rng.ofV s.got))) with hz | hz
        all_goals
          have HZZ := hid hz
          go_wp2_with (first | (go_at_call 117; refine (cSizeR _ gv9 st.got (Sts.snkR HO.out) (by have h1 := HGN.out; have h2 := H9.out; simp at h1; omega) HGB.out).mono ?_; rintro e w2 ⟨rfl, hb⟩; have HW := hid (HZ.out.quiet (stabC (snkP_stable _ _) (stabC (blkP_stable _ _) HL.out)) hb); clear hb k18) | (go_at_call 96; refine (HP.out _ HW.out).mono ?_; rintro e w6 ⟨rfl, hw⟩; have HF := hid hw; clear hw))
          go_ret
          refine ⟨rfl, ?_⟩
          rw [← HS9.out]
          try rw [HST.out]
          rw [← HGT.out, HZZ.out]
          first | (rw [if_pos rfl]; exact HF.out.swap.tail) | (rw [if_neg (by decide)]; exact HW.out.swap.tail)
set_option maxRecDepth 100000 in
set_option maxHeartbeats 8000000 in
theorem cPceG (hft : s.Fit) (h9 : s.got.length < 800000) (hd : ∀ y L, Sts W (L ++ l) y → ∀ k x, p.data[k]? = some x → y.cell? ⟨b, off + k, none⟩ = some (.int .u8 (x : Nat))) (ht : s.tot.2 = false ∨ (s.tot.2 = true ∧ decide ((to : Int) > s.tot.1) = false)) (hp0 : 0 < pl) (zk : Nat) (hzk : (to : Int) - (s.data.length : Int) = (zk : Int)) (hz0 : 0 < zk) (hg : decide ((to : Int) > (s.data.length : Int)) = true) (st2 : Fil.Snk) (hs2 : (if decide (Rng.sizeV (Rng.ofV (Rng.ofV (s.got ++ [((po : Int), (to : Int))]))) > Rng.sizeV (Rng.ofV s.got)) = true then ({ s with data := Fil.putK s.got po p.data (s.data ++ List.replicate zk 0 : List Nat) pl, got := Rng.ofV (s.got ++ [((po : Int), (to : Int))]) } : Fil.Snk).prog else ({ s with data := Fil.putK s.got po p.data (s.data ++ List.replicate zk 0 : List Nat) pl, got := Rng.ofV (s.got ++ [((po : Int), (to : Int))]) } : Fil.Snk)) = st2) : Calls Try.prog 115 #[.pointer (some ⟨q, 0, none⟩), .agg p.cells] w fun e w' => e = .returned (.int .i64 0) ∧ Sts W (snkP q st2 :: l) w' := by
  have HS9 := hid hs2
  clear hs2
  rw [show p.cells = #[.int .i64 p.kind, .int .i64 p.src, .int .i64 p.num, .int .i64 p.cls, .string p.name, .int .i64 p.size, .int .i64 (po : Int), .slice (some ⟨b, off, none⟩) pl p.dc, .int .u32 (p.sum : Nat), .int .i64 p.code, .slice p.ga p.gaps.length p.gc] by unfold Fil.Pdu.cells; rw [hpo, hpl, hda]]
  have hls : ∀ B ∈ snkP q s :: l, Stable B := stabC (snkP_stable _ _) hl
  have hz : Sts W (blkP w.heap.size (.cells #[.int .i64 p.kind, .int .i64 p.src, .int .i64 p.num, .int .i64 p.cls, .string p.name, .int .i64 p.size, .int .i64 (po : Int), .slice (some ⟨b, off, none⟩) pl p.dc, .int .u32 (p.sum : Nat), .int .i64 p.code, .slice p.ga p.gaps.length p.gc] 45 (0, 0)) :: snkP q s :: l) (w.alloc (.cells #[.int .i64 p.kind, .int .i64 p.src, .int .i64 p.num, .int .i64 p.cls, .string p.name, .int .i64 p.size, .int .i64 (po : Int), .slice (some ⟨b, off, none⟩) pl p.dc, .int .u32 (p.sum : Nat), .int .i64 p.code, .slice p.ga p.gaps.length p.gc] 45)) := hs.alloc hls (.cells #[.int .i64 p.kind, .int .i64 p.src, .int .i64 p.num, .int .i64 p.cls, .string p.name, .int .i64 p.size, .int .i64 (po : Int), .slice (some ⟨b, off, none⟩) pl p.dc, .int .u32 (p.sum : Nat), .int .i64 p.code, .slice p.ga p.gaps.length p.gc] 45 (0, 0))
  have hbl : ∀ B ∈ blkP w.heap.size (.cells #[.int .i64 p.kind, .int .i64 p.src, .int .i64 p.num, .int .i64 p.cls, .string p.name, .int .i64 p.size, .int .i64 (po : Int), .slice (some ⟨b, off, none⟩) pl p.dc, .int .u32 (p.sum : Nat), .int .i64 p.code, .slice p.ga p.gaps.length p.gc] 45 (0, 0)) :: l, Stable B := stabC (blkP_stable _ _) hl
  have hT := cTotal q s hz.swap
  obtain ⟨dv, gv, h⟩ := Sts.openSnk hz.swap
  have p6 := (Sts.boxCell hz 6 _ rfl).1
  have p7 := (Sts.boxCell hz 7 _ rfl).1
  obtain ⟨da, dc, hde⟩ := (Rd.of_own (Sts.rowOwn h.tail) (u8s_len _)).eq
  rw [u8s_len] at hde
  obtain ⟨ga, gc, hge⟩ := (Sts.snkR h).eq
  subst hde
  subst hge
  have HH := hid h
  have HL := hid hl
  have hwt : IntKind.i64.wrap (to : Int) = (to : Int) := i64w to (by omega)
  have HFT := hid hft
  have H9 := hid h9
  have HD : Hid (∀ y L, Sts W (L ++ l) y → ∀ k x, p.data[k]? = some x → y.cell? ⟨b, off + k, none⟩ = some (.int .u8 (x : Nat))) := hid hd
  have HPL := hid hpl
  have hwz : IntKind.i64.wrap (zk : Int) = (zk : Int) := i64w zk (by omega)
  have hgn : s.data.length < to := by simpa using hg
  have hgd : decide (s.data.length < to) = true := decide_eq_true hgn
  clear h hz hs hls hbl hl hft hd hpl hpo hda h9
  generalize htv : s.tot = tv at hT ht
  obtain ⟨tv1, tv2⟩ := tv
  simp only [] at ht hT
  clear htv
  rcases ht with rfl | ⟨rfl, ht⟩
  all_goals
    have HT := hid hT
    clear hT
    go_enter Try.func115, Try.ntmps115
    go_wp2_with (first | (go_at_call 85; refine HT.out.mono ?_; rintro e w1 ⟨rfl, m, hm⟩; have H1 := hid (HH.out.quiet (stabC (blkP_stable _ _) (stabC (rowP_stable _ _ _ _ _) (stabC (rowP_stable _ _ _ _ _) (stabC (blkP_stable _ _) HL.out)))) (show Below (w.alloc (.cells #[.int .i64 p.kind, .int .i64 p.src, .int .i64 p.num, .int .i64 p.cls, .string p.name, .int .i64 p.size, .int .i64 (po : Int), .slice (some ⟨b, off, none⟩) pl p.dc, .int .u32 (p.sum : Nat), .int .i64 p.code, .slice p.ga p.gaps.length p.gc] 45)).heap.size (w.alloc (.cells #[.int .i64 p.kind, .int .i64 p.src, .int .i64 p.num, .int .i64 p.cls, .string p.name, .int .i64 p.size, .int .i64 (po : Int), .slice (some ⟨b, off, none⟩) pl p.dc, .int .u32 (p.sum : Nat), .int .i64 p.code, .slice p.ga p.gaps.length p.gc] 45)) w1 by rw [hm]; exact below_drewN (Below.refl _ _) m)); clear hm; clear p6 p7; have hC := Sts.snkC H1.out; have k17 := hC.k17; have k18 := hC.k18; (try dsimp only at k17 k18); clear hC; have p6 := (Sts.boxCell H1.out.tail.tail.tail 6 _ rfl).1; have p7 := (Sts.boxCell H1.out.tail.tail.tail 7 _ rfl).1))
    clear k17
    (try clear p6)
    (try clear p7)
    clear k18
    go_wp2_with fail
    refine wp_region_ordS (fun i => i == 15) (.pure 0 (.pure 1 (.pure 2 (.pure 3 (.pure 4 (.pure 5 (.pure 6 (.pure 7 (.pure 8 (.pure 9 (.pure 10 (.pure 11 (.eff 12 (.pure 13 (.pure 14 (.eff 15 .nil)))))))))))))))) (fun y => SnkC y q s (.slice da s.data.length dc) (.slice ga s.got.length gc) ∧ y.cell? ⟨w.heap.size, 6, none⟩ = some (.int .i64 (po : Int))) (fun y => Sts W (blkP q (.cells (s.cells (.slice da s.data.length dc) (.slice ga s.got.length gc)) 109 (0, 0)) :: rowP 5 1 (.slice da s.data.length dc) s.data.length (u8s s.data) :: rowP 81 2 (.slice ga s.got.length gc) s.got.length (Fil.rcells s.got) :: blkP w.heap.size (.cells #[.int .i64 p.kind, .int .i64 p.src, .int .i64 p.num, .int .i64 p.cls, .string p.name, .int .i64 p.size, .int .i64 (po : Int), .slice (some ⟨b, off, none⟩) pl p.dc, .int .u32 (p.sum : Nat), .int .i64 p.code, .slice p.ga p.gaps.length p.gc] 45 (0, 0)) :: l) y) (by kernel_rfl) (by kernel_rfl) (H1.out.drew (stabC (blkP_stable _ _) (stabC (rowP_stable _ _ _ _ _) (stabC (rowP_stable _ _ _ _ _) (stabC (blkP_stable _ _) HL.out))))) (fun y hy => ⟨Sts.snkC hy, (Sts.boxCell hy.tail.tail.tail 6 _ rfl).1⟩) ?_
    iterate 12
      (apply ord_pure (ho := rfl)
       · go_simp
       · intro x hx; obtain ⟨hC, hp6⟩ := hx; have k17 := hC.k17; clear hC; go_simp; rfl
       apply ord_norm
       · go_simp; rfl)
    apply ord_eff (ho := rfl)
    · go_simp
    intro y hy
    refine effZ_append (l := s.data) (k := zk) hy.swap (stabC (blkP_stable _ _) (stabC (rowP_stable _ _ _ _ _) (stabC (blkP_stable _ _) HL.out))) (.tmp 39) (.tmp 46) rfl rfl rfl hz0 (by have := HFT.out.hd; omega) (fun y => SnkC y q s (.slice da s.data.length dc) (.slice ga s.got.length gc) ∧ y.cell? ⟨w.heap.size, 6, none⟩ = some (.int .i64 (po : Int))) (fun v' z hz => ⟨Sts.snkC hz.swap, (Sts.boxCell hz.swap.tail.tail.tail 6 _ rfl).1⟩) ?_
    intro v'
    clear hy y
    apply ord_norm
    · go_simp; rfl
    iterate 2
      (apply ord_pure (ho := rfl)
       · go_simp
       · intro x hx; obtain ⟨hC, hp6⟩ := hx; skip; clear hC; go_simp; rfl
       apply ord_norm
       · go_simp; rfl)
    apply ord_eff (ho := rfl)
    · go_simp
    intro y hy
    obtain ⟨g, dcap, hdv, hgb⟩ := own_some (Sts.rowOwn hy) (own_pos (Sts.rowOwn hy) (by rw [List.length_append, List.length_replicate]; omega))
    subst hdv
    clear hgb
    have q1 := (Sts.boxCell hy.tail 17 _ rfl).1
    have q2 := (Sts.boxCell hy.tail 17 _ rfl).2
    have hy2 := Sts.store (stabC (rowP_stable _ _ _ _ _) (stabC (rowP_stable _ _ _ _ _) (stabC (blkP_stable _ _) HL.out))) hy.swap (j := 17) (.slice (some ⟨g, 0, none⟩) (s.data ++ List.replicate zk 0 : List Nat).length dcap)
    refine effS_skip (fun _ => True) (fun y => Sts W (blkP q (.cells (s.cells (.slice (some ⟨g, 0, none⟩) (s.data ++ List.replicate zk 0 : List Nat).length dcap) (.slice ga s.got.length gc)) 109 (0, 0)) :: rowP 5 1 (.slice (some ⟨g, 0, none⟩) (s.data ++ List.replicate zk 0 : List Nat).length dcap) (s.data ++ List.replicate zk 0 : List Nat).length (u8s (s.data ++ List.replicate zk 0 : List Nat)) :: rowP 81 2 (.slice ga s.got.length gc) s.got.length (Fil.rcells s.got) :: blkP w.heap.size (.cells #[.int .i64 p.kind, .int .i64 p.src, .int .i64 p.num, .int .i64 p.cls, .string p.name, .int .i64 p.size, .int .i64 (po : Int), .slice (some ⟨b, off, none⟩) pl p.dc, .int .u32 (p.sum : Nat), .int .i64 p.code, .slice p.ga p.gaps.length p.gc] 45 (0, 0)) :: l) y) (w := y.setCell ⟨q, 17, none⟩ (.slice (some ⟨g, 0, none⟩) (s.data ++ List.replicate zk 0 : List Nat).length dcap)) rfl ?_ hy2 (fun _ _ => trivial) ?_
    · clear hy hy2
      go_simp
    clear hy hy2 q1 q2 y
    apply ord_norm
    · go_simp; rfl
    refine ord_nil fun z hz => ?_
    have HY := hid hz
    clear hz
    have hnt : to ≤ (s.data ++ List.replicate zk 0 : List Nat).length := by rw [List.length_append, List.length_replicate]; omega
    obtain ⟨N, hN⟩ : ∃ N, (s.data ++ List.replicate zk 0 : List Nat).length = N := ⟨_, rfl⟩
    rw [hN] at hnt
    have hNto := hnt
    clear hnt hzk hwz hgn hgd hg H1 HH
    have HN : Hid ((s.data ++ List.replicate zk 0 : List Nat).length = N) := hid hN
    clear hN
    rw [HN.out] at HY
    have k18 := (Sts.snkC HY.out).k18
    go_wp2_with (first | (go_at_call 117; refine (cSizeR _ (.slice ga s.got.length gc) s.got (Sts.snkR2 HY.out) HFT.out.hn HFT.out.hb).mono ?_; rintro e w2 ⟨rfl, hb⟩; have HW := hid (HY.out.quiet (stabC (blkP_stable _ _) (stabC (rowP_stable _ _ _ _ _) (stabC (rowP_stable _ _ _ _ _) (stabC (blkP_stable _ _) HL.out)))) hb); clear hb k18; have p7 := (Sts.boxCell HW.out.tail.tail.tail 7 _ rfl).1))
    clear p7 HY
    go_loopw [58] (fun i wr => ∃ k : Nat, k ≤ pl ∧ i = .int .i64 k ∧ Sts W (blkP q (.cells (s.cells (.slice (some ⟨g, 0, none⟩) N dcap) (.slice ga s.got.length gc)) 109 (0, 0)) :: rowP 5 1 (.slice (some ⟨g, 0, none⟩) N dcap) N (u8s (Fil.putK s.got po p.data (s.data ++ List.replicate zk 0 : List Nat) k)) :: rowP 81 2 (.slice ga s.got.length gc) s.got.length (Fil.rcells s.got) :: blkP w.heap.size (.cells #[.int .i64 p.kind, .int .i64 p.src, .int .i64 p.num, .int .i64 p.cls, .string p.name, .int .i64 p.size, .int .i64 (po : Int), .slice (some ⟨b, off, none⟩) pl p.dc, .int .u32 (p.sum : Nat), .int .i64 p.code, .slice p.ga p.gaps.length p.gc] 45 (0, 0)) :: l) wr) (fun i _ => pl - (intOf i).toNat)
    case atStart => exact ⟨0, by omega, rfl, HW.out⟩
    case round =>
      obtain ⟨k, hk, rfl, hS⟩ := hrel
      clear HW
      have HS := hid hS
      clear hS
      by_cases hlt : k < pl
      · obtain ⟨x, hx0⟩ : ∃ x, p.data[k]? = some x := ⟨_, List.getElem?_eq_getElem (by rw [HPL.out]; exact hlt)⟩
        have hxc := HD.out wr [_, _, _, _] HS.out k x hx0
        obtain ⟨m, hm⟩ : ∃ m, m = po + k := ⟨_, rfl⟩
        have hpk : (po : Int) + (k : Int) = (m : Int) := by omega
        have hwm : IntKind.i64.wrap (m : Int) = (m : Int) := i64w m (by omega)
        have hmN : m < N := by omega
        have hmN0 : (0 : Int) ≤ (m : Int) := by omega
        have hmN1 : (m : Int) < (N : Int) := by omega
        have HST := hid (putK_step s.got po p.data (s.data ++ List.replicate zk 0 : List Nat) k m x hm hx0)
        clear hx0 hm
        rcases Bool.eq_false_or_eq_true (Rng.hasB s.got (m : Int)) with hh | hh
        all_goals
          have HST2 := HST.out
          rw [hh] at HST2
          first | rw [if_pos rfl] at HST2 | rw [if_neg (by decide)] at HST2
          replace HST := hid HST2
          clear HST2
          have HH2 := hid hh
          clear hh
          go_wp2_with fail
          refine wp_region_ord (.pure 0 (.pure 1 (.pure 2 (.pure 3 (.pure 4 (.pure 5 (.pure 6 (.pure 7 (.eff 8 (.pure 9 .nil)))))))))) (fun y => SnkC y q s (.slice (some ⟨g, 0, none⟩) N dcap) (.slice ga s.got.length gc) ∧ y.cell? ⟨w.heap.size, 6, none⟩ = some (.int .i64 (po : Int))) (fun y => Sts W (blkP q (.cells (s.cells (.slice (some ⟨g, 0, none⟩) N dcap) (.slice ga s.got.length gc)) 109 (0, 0)) :: rowP 5 1 (.slice (some ⟨g, 0, none⟩) N dcap) N (u8s (Fil.putK s.got po p.data (s.data ++ List.replicate zk 0 : List Nat) k)) :: rowP 81 2 (.slice ga s.got.length gc) s.got.length (Fil.rcells s.got) :: blkP w.heap.size (.cells #[.int .i64 p.kind, .int .i64 p.src, .int .i64 p.num, .int .i64 p.cls, .string p.name, .int .i64 p.size, .int .i64 (po : Int), .slice (some ⟨b, off, none⟩) pl p.dc, .int .u32 (p.sum : Nat), .int .i64 p.code, .slice p.ga p.gaps.length p.gc] 45 (0, 0)) :: l) y) (by kernel_rfl) (by kernel_rfl) (HS.out.drew (stabC (blkP_stable _ _) (stabC (rowP_stable _ _ _ _ _) (stabC (rowP_stable _ _ _ _ _) (stabC (blkP_stable _ _) HL.out))))) (fun y hy => ⟨Sts.snkC hy, (Sts.boxCell hy.tail.tail.tail 6 _ rfl).1⟩) ?_
          iterate 8
            (apply ord_pure (ho := rfl)
             · go_simp
             · intro x hx; obtain ⟨hC, hp6⟩ := hx; have k18 := hC.k18; clear hC; go_simp; rfl
             apply ord_norm
             · go_simp; rfl)
          apply ord_eff (ho := rfl)
          · go_simp
          intro y hy
          refine eff_call (f := 120) (by go_simp) (cHasR y (.slice ga s.got.length gc) s.got (Sts.snkR2 hy) HFT.out.hn (m : Int)) ?_
          rintro e w2 ⟨rfl, hb⟩
          rw [HH2.out]
          refine ⟨_, rfl, (fun y => SnkC y q s (.slice (some ⟨g, 0, none⟩) N dcap) (.slice ga s.got.length gc) ∧ y.cell? ⟨w.heap.size, 6, none⟩ = some (.int .i64 (po : Int))), (fun y => Sts W (blkP q (.cells (s.cells (.slice (some ⟨g, 0, none⟩) N dcap) (.slice ga s.got.length gc)) 109 (0, 0)) :: rowP 5 1 (.slice (some ⟨g, 0, none⟩) N dcap) N (u8s (Fil.putK s.got po p.data (s.data ++ List.replicate zk 0 : List Nat) k)) :: rowP 81 2 (.slice ga s.got.length gc) s.got.length (Fil.rcells s.got) :: blkP w.heap.size (.cells #[.int .i64 p.kind, .int .i64 p.src, .int .i64 p.num, .int .i64 p.cls, .string p.name, .int .i64 p.size, .int .i64 (po : Int), .slice (some ⟨b, off, none⟩) pl p.dc, .int .u32 (p.sum : Nat), .int .i64 p.code, .slice p.ga p.gaps.length p.gc] 45 (0, 0)) :: l) y), hy.quiet (stabC (blkP_stable _ _) (stabC (rowP_stable _ _ _ _ _) (stabC (rowP_stable _ _ _ _ _) (stabC (blkP_stable _ _) HL.out)))) hb, (fun y hy => ⟨Sts.snkC hy, (Sts.boxCell hy.tail.tail.tail 6 _ rfl).1⟩), (fun _ h => h), ?_⟩
          clear hb hy y
          apply ord_norm
          · go_simp; rfl
          iterate 1
            (apply ord_pure (ho := rfl)
             · go_simp
             · intro x hx; obtain ⟨hC, hp6⟩ := hx; skip; clear hC; go_simp; rfl
             apply ord_norm
             · go_simp; rfl)
          refine ord_nil fun z hz => ?_
          have HZ := hid hz
          clear hz
          go_wp2_with fail
        · go_roundw
          case rel => exact ⟨k + 1, by omega, by go_num, by rw [HST.out]; exact HZ.out⟩
          case measure => simp [intOf]; omega
        · clear hxc
          refine wp_region_ord (.pure 0 (.pure 1 (.pure 2 (.pure 3 (.pure 4 (.pure 5 (.pure 6 (.pure 7 (.pure 8 (.pure 9 (.eff 10 .nil))))))))))) (fun y => SnkC y q s (.slice (some ⟨g, 0, none⟩) N dcap) (.slice ga s.got.length gc) ∧ y.cell? ⟨w.heap.size, 6, none⟩ = some (.int .i64 (po : Int))) (fun y => Sts W (blkP q (.cells (s.cells (.slice (some ⟨g, 0, none⟩) N dcap) (.slice ga s.got.length gc)) 109 (0, 0)) :: rowP 5 1 (.slice (some ⟨g, 0, none⟩) N dcap) N (u8s (Fil.putK s.got po p.data (s.data ++ List.replicate zk 0 : List Nat) k)) :: rowP 81 2 (.slice ga s.got.length gc) s.got.length (Fil.rcells s.got) :: blkP w.heap.size (.cells #[.int .i64 p.kind, .int .i64 p.src, .int .i64 p.num, .int .i64 p.cls, .string p.name, .int .i64 p.size, .int .i64 (po : Int), .slice (some ⟨b, off, none⟩) pl p.dc, .int .u32 (p.sum : Nat), .int .i64 p.code, .slice p.ga p.gaps.length p.gc] 45 (0, 0)) :: l) y) (by kernel_rfl) (by kernel_rfl) (HZ.out.drew (stabC (blkP_stable _ _) (stabC (rowP_stable _ _ _ _ _) (stabC (rowP_stable _ _ _ _ _) (stabC (blkP_stable _ _) HL.out))))) (fun y hy => ⟨Sts.snkC hy, (Sts.boxCell hy.tail.tail.tail 6 _ rfl).1⟩) ?_
          iterate 10
            (apply ord_pure (ho := rfl)
             · go_simp
             · intro x hx; obtain ⟨hC, hp6⟩ := hx; have k17 := hC.k17; clear hC; go_simp; rfl
             apply ord_norm
             · go_simp; rfl)
          apply ord_eff (ho := rfl)
          · go_simp
          intro y hy
          have hln : (u8s (Fil.putK s.got po p.data (s.data ++ List.replicate zk 0 : List Nat) k)).length = N := by rw [u8s_len, Fil.putK_len]; exact HN.out
          obtain ⟨vv, hvv⟩ : ∃ vv, (u8s (Fil.putK s.got po p.data (s.data ++ List.replicate zk 0 : List Nat) k))[m]? = some vv := ⟨_, List.getElem?_eq_getElem (by rw [hln]; exact hmN)⟩
          have q1 := Sts.rowCell hy.swap m hmN vv hvv
          have q2 := Sts.rowFree hy.swap m
          have hy2 := Sts.rowStore (stabC (blkP_stable _ _) (stabC (rowP_stable _ _ _ _ _) (stabC (blkP_stable _ _) HL.out))) hy.swap m (.int .u8 (x : Nat))
          rw [u8s_set] at hy2
          clear hvv hln
          refine eff_skip (fun y => SnkC y q s (.slice (some ⟨g, 0, none⟩) N dcap) (.slice ga s.got.length gc) ∧ y.cell? ⟨w.heap.size, 6, none⟩ = some (.int .i64 (po : Int))) (fun y => Sts W (blkP q (.cells (s.cells (.slice (some ⟨g, 0, none⟩) N dcap) (.slice ga s.got.length gc)) 109 (0, 0)) :: rowP 5 1 (.slice (some ⟨g, 0, none⟩) N dcap) N (u8s ((Fil.putK s.got po p.data (s.data ++ List.replicate zk 0 : List Nat) k).set m x)) :: rowP 81 2 (.slice ga s.got.length gc) s.got.length (Fil.rcells s.got) :: blkP w.heap.size (.cells #[.int .i64 p.kind, .int .i64 p.src, .int .i64 p.num, .int .i64 p.cls, .string p.name, .int .i64 p.size, .int .i64 (po : Int), .slice (some ⟨b, off, none⟩) pl p.dc, .int .u32 (p.sum : Nat), .int .i64 p.code, .slice p.ga p.gaps.length p.gc] 45 (0, 0)) :: l) y) (w := y.setCell ⟨g, m, none⟩ (.int .u8 (x : Nat))) ?_ hy2.swap (fun y hy => ⟨Sts.snkC hy, (Sts.boxCell hy.tail.tail.tail 6 _ rfl).1⟩) (fun _ h => h) ?_
          · clear hy hy2
            go_simp
          clear hy hy2 q1 q2 y
          apply ord_norm
          · go_simp; rfl
          refine ord_nil fun z hz => ?_
          have HZ2 := hid hz
          clear hz
          go_wp2_with fail
          go_roundw
          case rel => exact ⟨k + 1, by omega, by go_num, by rw [HST.out]; exact HZ2.out⟩
          case measure => simp [intOf]; omega
      · obtain rfl : pl = k := by omega
        have HGN := hid (Rng.ofV_len (s.got ++ [((po : Int), (to : Int))]))
        have HGB : Hid (∀ r ∈ Rng.ofV (s.got ++ [((po : Int), (to : Int))]), 0 ≤ r.1 ∧ r.2 ≤ 1000000000) := hid fun r hr => by
          have := Rng.ofV_in (a := 0) (b := 1000000000) (l := s.got ++ [((po : Int), (to : Int))]) (fun r hr => by
            rcases List.mem_append.1 hr with hr | hr
            · exact HFT.out.hb r hr
            · simp at hr; subst hr; simp only []; omega) r hr
          omega
        go_wp2_with fail
        refine wp_region_ordS (fun i => i == 12) (.pure 0 (.pure 1 (.pure 2 (.pure 3 (.pure 4 (.pure 5 (.pure 6 (.pure 7 (.pure 8 (.eff 9 (.pure 10 (.pure 11 (.eff 12 .nil))))))))))))) (fun y => SnkC y q s (.slice (some ⟨g, 0, none⟩) N dcap) (.slice ga s.got.length gc) ∧ y.cell? ⟨w.heap.size, 6, none⟩ = some (.int .i64 (po : Int))) (fun y => Sts W (blkP q (.cells (s.cells (.slice (some ⟨g, 0, none⟩) N dcap) (.slice ga s.got.length gc)) 109 (0, 0)) :: rowP 5 1 (.slice (some ⟨g, 0, none⟩) N dcap) N (u8s (Fil.putK s.got po p.data (s.data ++ List.replicate zk 0 : List Nat) pl)) :: rowP 81 2 (.slice ga s.got.length gc) s.got.length (Fil.rcells s.got) :: blkP w.heap.size (.cells #[.int .i64 p.kind, .int .i64 p.src, .int .i64 p.num, .int .i64 p.cls, .string p.name, .int .i64 p.size, .int .i64 (po : Int), .slice (some ⟨b, off, none⟩) pl p.dc, .int .u32 (p.sum : Nat), .int .i64 p.code, .slice p.ga p.gaps.length p.gc] 45 (0, 0)) :: l) y) (by kernel_rfl) (by kernel_rfl) (HS.out.drew (stabC (blkP_stable _ _) (stabC (rowP_stable _ _ _ _ _) (stabC (rowP_stable _ _ _ _ _) (stabC (blkP_stable _ _) HL.out))))) (fun y hy => ⟨Sts.snkC hy, (Sts.boxCell hy.tail.tail.tail 6 _ rfl).1⟩) ?_
        iterate 9
          (apply ord_pure (ho := rfl)
           · go_simp
           · intro x hx; obtain ⟨hC, hp6⟩ := hx; have k18 := hC.k18; clear hC; go_simp; rfl
           apply ord_norm
           · go_simp; rfl)
        apply ord_eff (ho := rfl)
        · go_simp
        intro y hy
        refine eff_call (f := 108) (by go_simp) (cAddR y (.slice ga s.got.length gc) s.got (po : Int) (to : Int) (Sts.snkR2 hy) (by exact Nat.lt_trans H9.out (by decide))) ?_
        rintro e w2 ⟨r2, rfl, hN2⟩
        have hs2 := Sts.newR (stabC (blkP_stable _ _) (stabC (rowP_stable _ _ _ _ _) (stabC (rowP_stable _ _ _ _ _) (stabC (blkP_stable _ _) HL.out)))) hy hN2
        refine ⟨_, rfl, (fun y => SnkC y q s (.slice (some ⟨g, 0, none⟩) N dcap) (.slice ga s.got.length gc) ∧ y.cell? ⟨w.heap.size, 6, none⟩ = some (.int .i64 (po : Int))), (fun y => Sts W (rowP 81 2 r2 (Rng.ofV (s.got ++ [((po : Int), (to : Int))])).length (Fil.rcells (Rng.ofV (s.got ++ [((po : Int), (to : Int))]))) :: blkP q (.cells (s.cells (.slice (some ⟨g, 0, none⟩) N dcap) (.slice ga s.got.length gc)) 109 (0, 0)) :: rowP 5 1 (.slice (some ⟨g, 0, none⟩) N dcap) N (u8s (Fil.putK s.got po p.data (s.data ++ List.replicate zk 0 : List Nat) pl)) :: rowP 81 2 (.slice ga s.got.length gc) s.got.length (Fil.rcells s.got) :: blkP w.heap.size (.cells #[.int .i64 p.kind, .int .i64 p.src, .int .i64 p.num, .int .i64 p.cls, .string p.name, .int .i64 p.size, .int .i64 (po : Int), .slice (some ⟨b, off, none⟩) pl p.dc, .int .u32 (p.sum : Nat), .int .i64 p.code, .slice p.ga p.gaps.length p.gc] 45 (0, 0)) :: l) y), hs2, (fun y hy => ⟨Sts.snkC hy.tail, (Sts.boxCell hy.tail.tail.tail.tail 6 _ rfl).1⟩), (fun _ h => h), ?_⟩
        have HRE := hid hN2.rd.eq
        clear hs2 hN2 hy y
        apply ord_norm
        · go_simp; rfl
        iterate 2
          (apply ord_pure (ho := rfl)
           · go_simp
           · intro x hx; obtain ⟨hC, hp6⟩ := hx; skip; clear hC; go_simp; rfl
           apply ord_norm
           · go_simp; rfl)
        apply ord_eff (ho := rfl)
        · go_simp
        intro y hy
        obtain ⟨ra, rc, hre⟩ := HRE.out
        subst hre
        have q1 := (Sts.boxCell hy.tail 18 _ rfl).1
        have q2 := (Sts.boxCell hy.tail 18 _ rfl).2
        have hy2 := Sts.store (stabC (rowP_stable _ _ _ _ _) (stabC (rowP_stable _ _ _ _ _) (stabC (rowP_stable _ _ _ _ _) (stabC (blkP_stable _ _) HL.out)))) hy.swap (j := 18) (.slice ra (Rng.ofV (s.got ++ [((po : Int), (to : Int))])).length rc)
        refine effS_skip (fun _ => True) (fun y => Sts W (blkP q (.cells (s.cells (.slice (some ⟨g, 0, none⟩) N dcap) (.slice ra (Rng.ofV (s.got ++ [((po : Int), (to : Int))])).length rc)) 109 (0, 0)) :: rowP 81 2 (.slice ra (Rng.ofV (s.got ++ [((po : Int), (to : Int))])).length rc) (Rng.ofV (s.got ++ [((po : Int), (to : Int))])).length (Fil.rcells (Rng.ofV (s.got ++ [((po : Int), (to : Int))]))) :: rowP 5 1 (.slice (some ⟨g, 0, none⟩) N dcap) N (u8s (Fil.putK s.got po p.data (s.data ++ List.replicate zk 0 : List Nat) pl)) :: rowP 81 2 (.slice ga s.got.length gc) s.got.length (Fil.rcells s.got) :: blkP w.heap.size (.cells #[.int .i64 p.kind, .int .i64 p.src, .int .i64 p.num, .int .i64 p.cls, .string p.name, .int .i64 p.size, .int .i64 (po : Int), .slice (some ⟨b, off, none⟩) pl p.dc, .int .u32 (p.sum : Nat), .int .i64 p.code, .slice p.ga p.gaps.length p.gc] 45 (0, 0)) :: l) y) (w := y.setCell ⟨q, 18, none⟩ (.slice ra (Rng.ofV (s.got ++ [((po : Int), (to : Int))])).length rc)) rfl ?_ hy2 (fun _ _ => trivial) ?_
        · clear hy hy2
          go_simp
        clear hy hy2 q1 q2 y
        apply ord_norm
        · go_simp; rfl
        refine ord_nil fun z hz => ?_
        have hNl : N = (Fil.putK s.got po p.data (s.data ++ List.replicate zk 0 : List Nat) pl).length := by rw [Fil.putK_len]; exact HN.out.symm
        have hz3 : Sts W (snkP q ({ s with data := (Fil.putK s.got po p.data (s.data ++ List.replicate zk 0 : List Nat) pl), got := Rng.ofV (s.got ++ [((po : Int), (to : Int))]) } : Fil.Snk) :: blkP w.heap.size (.cells #[.int .i64 p.kind, .int .i64 p.src, .int .i64 p.num, .int .i64 p.cls, .string p.name, .int .i64 p.size, .int .i64 (po : Int), .slice (some ⟨b, off, none⟩) pl p.dc, .int .u32 (p.sum : Nat), .int .i64 p.code, .slice p.ga p.gaps.length p.gc] 45 (0, 0)) :: l) z := by
          have h1 := hz.perm ((List.Perm.swap _ _ _).cons _)
          have h3 := Sts.drop4 h1
          rw [hNl] at h3
          exact Sts.shutSnk (s := { s with data := (Fil.putK s.got po p.data (s.data ++ List.replicate zk 0 : List Nat) pl), got := Rng.ofV (s.got ++ [((po : Int), (to : Int))]) }) h3
        generalize hst : ({ s with data := (Fil.putK s.got po p.data (s.data ++ List.replicate zk 0 : List Nat) pl), got := Rng.ofV (s.got ++ [((po : Int), (to : Int))]) } : Fil.Snk) = st at *
        have hgt : st.got = Rng.ofV (s.got ++ [((po : Int), (to : Int))]) := by rw [← hst]
        have HZ := hid hz3
        have HP := hid (fun (y : World) (hy : Sts W (snkP q st :: blkP w.heap.size (.cells #[.int .i64 p.kind, .int .i64 p.src, .int .i64 p.num, .int .i64 p.cls, .string p.name, .int .i64 p.size, .int .i64 (po : Int), .slice (some ⟨b, off, none⟩) pl p.dc, .int .u32 (p.sum : Nat), .int .i64 p.code, .slice p.ga p.gaps.length p.gc] 45 (0, 0)) :: l) y) => cProg (W := W) (w := y) (stabC (blkP_stable _ _) HL.out) q st hy)
        obtain ⟨dv9, gv9, ho⟩ := Sts.openSnk hz3
        have HO := hid ho
        have k18 := (Sts.snkC ho).k18
        rw [← hgt] at HGN HGB
        have HGT := hid hgt
        have HST := hid hst
        clear hz hz3 ho hgt hst HS HRE
        rcases Bool.eq_false_or_eq_true (decide (Rng.sizeV (Rng.ofV st.got) > Rng.sizeV (Rng.ofV s.got))) with hz | hz
        all_goals
          have HZZ := hid hz
          go_wp2_with (first | (go_at_call 117; refine (cSizeR _ gv9 st.got (Sts.snkR HO.out) (by have h1 := HGN.out; have h2 := H9.out; simp at h1; omega) HGB.out).mono ?_; rintro e w2 ⟨rfl, hb⟩; have HW := hid (HZ.out.quiet (stabC (snkP_stable _ _) (stabC (blkP_stable _ _) HL.out)) hb); clear hb k18) | (go_at_call 96; refine (HP.out _ HW.out).mono ?_; rintro e w6 ⟨rfl, hw⟩; have HF := hid hw; clear hw))
          go_ret
          refine ⟨rfl, ?_⟩
          rw [← HS9.out]
          try rw [HST.out]
          rw [← HGT.out, HZZ.out]
          first | (rw [if_pos rfl]; exact HF.out.swap.tail) | (rw [if_neg (by decide)]; exact HW.out.swap.tail)
end
end Go.Proofs.Ytfjadhkhmhnccaa
