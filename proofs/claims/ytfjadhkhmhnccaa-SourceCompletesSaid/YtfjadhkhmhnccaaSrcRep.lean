/- The contract of what the sending end sends again. The contracts of the repetition of the end. -/
import Derived.Test.YtfjadhkhmhnccaaSrcFwp
import Derived.Test.YtfjadhkhmhnccaaRngF
set_option linter.unusedVariables false
set_option linter.unusedSimpArgs false
namespace Go.Proofs.Ytfjadhkhmhnccaa
open Go.RowKit Go.Proofs.Num
section
variable {W w : World} {l : List HProp} (hl : ∀ B ∈ l, Stable B) (q : Nat) (s : Fil.Src) (hs : Sts W (srcP q s :: l) w) (hn : s.data.length < 100000000) (hb : ∀ x ∈ s.data, x < 256)
include hl hs hn hb
set_option maxRecDepth 100000 in
set_option maxHeartbeats 4000000 in
theorem cAgainS (f t c tt : Nat) (rest : List Rng.R) (hw : s.wanted = ((f : Int), (t : Int)) :: rest) (hft : f < t) (ht : t ≤ s.data.length) (h2 : s.chunk = (c : Int)) (h4 : 0 < c ∧ c ≤ 512) (h5 : tt = min t (f + c)) (hwl : s.wanted.length < 400000) : Calls Try.prog 64 #[.pointer (some ⟨q, 0, none⟩)] w fun e w' => ∃ pa pc, e = .returned (.agg (Fil.pieceP s f pa ((s.data.drop f).take (tt - f)) pc).cells) ∧ Sts W (srcP q { s with wanted := Rng.remV s.wanted ((f : Int), (tt : Int)) } :: rowP 5 1 (.slice pa ((s.data.drop f).take (tt - f)).length pc) ((s.data.drop f).take (tt - f)).length (u8s ((s.data.drop f).take (tt - f))) :: l) w' := by
  obtain ⟨sub, hsub⟩ : ∃ sub, sub = ((s.data.drop f).take (tt - f)) := ⟨_, rfl⟩
  rw [← hsub]
  replace hsub := hid hsub
  obtain ⟨dv, wv, h⟩ := Sts.openSrc hs
  obtain ⟨da, dc, hde⟩ := (Rd.of_own (Sts.rowOwn (h.swap)) (u8s_len _)).eq
  rw [u8s_len] at hde
  subst hde
  have hwn : 0 < s.wanted.length := by rw [hw]; simp
  obtain ⟨g, wc, rfl⟩ : ∃ g wc, wv = .slice (some ⟨g, 0, none⟩) s.wanted.length wc := by
    rcases (Sts.rowOwnK (h.third)).2 with ⟨h2, h3⟩ | ⟨g, cap, cur, hv, _⟩
    · omega
    · exact ⟨g, cap, hv⟩
  have hl3 : ∀ B ∈ blkP q (.cells (s.cells (.slice da s.data.length dc) (.slice (some ⟨g, 0, none⟩) s.wanted.length wc)) 64 (0, 0)) :: rowP 5 1 (.slice da s.data.length dc) s.data.length (u8s s.data) :: rowP 81 2 (.slice (some ⟨g, 0, none⟩) s.wanted.length wc) s.wanted.length (Fil.rcells s.wanted) :: l, Stable B := stabC (blkP_stable _ _) (stabC (rowP_stable _ _ _ _ _) (stabC (rowP_stable _ _ _ _ _) hl))
  have hz : Sts W (blkP w.heap.size (.cells zeroPdu 45 (0, 0)) :: blkP q (.cells (s.cells (.slice da s.data.length dc) (.slice (some ⟨g, 0, none⟩) s.wanted.length wc)) 64 (0, 0)) :: rowP 5 1 (.slice da s.data.length dc) s.data.length (u8s s.data) :: rowP 81 2 (.slice (some ⟨g, 0, none⟩) s.wanted.length wc) s.wanted.length (Fil.rcells s.wanted) :: l) (w.alloc (.cells #[.int .i64 0, .int .i64 0, .int .i64 0, .int .i64 0, .string ⟨#[]⟩, .int .i64 0, .int .i64 0, .slice none 0 0, .int .u32 0, .int .i64 0, .slice none 0 0] 45)) := h.alloc hl3 (.cells zeroPdu 45 (0, 0))
  have hlz : ∀ B ∈ blkP w.heap.size (.cells zeroPdu 45 (0, 0)) :: blkP q (.cells (s.cells (.slice da s.data.length dc) (.slice (some ⟨g, 0, none⟩) s.wanted.length wc)) 64 (0, 0)) :: rowP 5 1 (.slice da s.data.length dc) s.data.length (u8s s.data) :: rowP 81 2 (.slice (some ⟨g, 0, none⟩) s.wanted.length wc) s.wanted.length (Fil.rcells s.wanted) :: l, Stable B := stabC (blkP_stable _ _) hl3
  have hsz : (w.alloc (.cells #[.int .i64 0, .int .i64 0, .int .i64 0, .int .i64 0, .string ⟨#[]⟩, .int .i64 0, .int .i64 0, .slice none 0 0, .int .u32 0, .int .i64 0, .slice none 0 0] 45)).heap.size = w.heap.size + 1 := by
    show (w.heap.push _).size = _
    simp
  have hB0 := hz.alloc hlz (.cells #[.int .i64 (f : Int), .int .i64 (t : Int)] 81)
  rw [hsz] at hB0
  have HB := hid hB0
  have HLB := hid (stabC (blkP_stable (w.heap.size + 1) (.cells #[.int .i64 (f : Int), .int .i64 (t : Int)] 81 (0, 0))) hlz)
  have HLB2 := hid (stabC (blkP_stable (w.heap.size + 1) (.cells #[.int .i64 (f : Int), .int .i64 (tt : Int)] 81 (0, 0))) hlz)
  have HL := hid hl
  have HN := hid hn
  have HBT := hid hb
  have hC := Sts.srcC hz.tail
  have k15 := hC.k15
  have hrow := (hz.perm (List.perm_middle (l₁ := [_, _, _]) (l₂ := l)))
  have g0 := Sts.rowCellK hrow 0 (by omega) (.int .i64 (f : Int)) (by rw [hw]; rfl)
  have g1 := Sts.rowCellK hrow 1 (by omega) (.int .i64 (t : Int)) (by rw [hw]; rfl)
  have hwn2 : (0 : Int) < (s.wanted.length : Int) := by omega
  have hmin : min (t : Int) (IntKind.i64.wrap ((f : Int) + (c : Int))) = (tt : Nat) := by rw [← Int.natCast_add, i64w _ (by omega)]; omega
  have t1 : f < tt := by omega
  have t2 : tt ≤ s.data.length := by omega
  have HWL := hid hwl
  clear h hz hs hC h5 hw hrow hl3 hlz hB0 hl hsz hn hb hwl
  go_enter Try.func64, Try.ntmps64
  go_wp2_with fail
  clear g0 g1
  refine wp_region_ordS (fun i => i == 12) (.pure 0 (.pure 1 (.pure 2 (.pure 3 (.pure 4 (.pure 5 (.pure 6 (.pure 7 (.pure 8 (.pure 9 (.pure 10 (.pure 11 (.eff 12 .nil))))))))))))) (fun y => SrcC y q s (.slice da s.data.length dc) (.slice (some ⟨g, 0, none⟩) s.wanted.length wc) ∧ y.cell? ⟨w.heap.size + 1, 0, none⟩ = some (.int .i64 (f : Int)) ∧ y.cell? ⟨w.heap.size + 1, 1, none⟩ = some (.int .i64 (t : Int))) (fun y => Sts W (blkP (w.heap.size + 1) (.cells #[.int .i64 (f : Int), .int .i64 (t : Int)] 81 (0, 0)) :: blkP w.heap.size (.cells zeroPdu 45 (0, 0)) :: blkP q (.cells (s.cells (.slice da s.data.length dc) (.slice (some ⟨g, 0, none⟩) s.wanted.length wc)) 64 (0, 0)) :: rowP 5 1 (.slice da s.data.length dc) s.data.length (u8s s.data) :: rowP 81 2 (.slice (some ⟨g, 0, none⟩) s.wanted.length wc) s.wanted.length (Fil.rcells s.wanted) :: l) y) (by kernel_rfl) (by kernel_rfl) (HB.out.drew HLB.out) (fun y hy => ⟨Sts.srcC hy.tail.tail, (Sts.boxCell hy 0 _ rfl).1, (Sts.boxCell hy 1 _ rfl).1⟩) ?_
  iterate 12
    (apply ord_pure (ho := rfl)
     · go_simp
     · intro x hx; obtain ⟨hC, q0, q1⟩ := hx; have k6 := hC.k6; have k15 := hC.k15; clear hC; go_simp; rfl
     apply ord_norm
     · go_simp; rfl)
  apply ord_eff (ho := rfl)
  · go_simp
  intro y hy
  have q1 := (Sts.boxCell hy 1 _ rfl).1
  have fr1 : y.frozen? ⟨w.heap.size + 1, 1, none⟩ = false := by obtain ⟨F, hF⟩ := hy.head; exact free_blk hF.1
  have hy2 := Sts.store (fun B hB => HLB.out B (List.mem_cons_of_mem _ hB)) hy (j := 1) (.int .i64 (tt : Int))
  refine effS_skip (fun _ => True) (fun y => Sts W (blkP (w.heap.size + 1) (.cells #[.int .i64 (f : Int), .int .i64 (tt : Int)] 81 (0, 0)) :: blkP w.heap.size (.cells zeroPdu 45 (0, 0)) :: blkP q (.cells (s.cells (.slice da s.data.length dc) (.slice (some ⟨g, 0, none⟩) s.wanted.length wc)) 64 (0, 0)) :: rowP 5 1 (.slice da s.data.length dc) s.data.length (u8s s.data) :: rowP 81 2 (.slice (some ⟨g, 0, none⟩) s.wanted.length wc) s.wanted.length (Fil.rcells s.wanted) :: l) y) (w := y.setCell ⟨w.heap.size + 1, 1, none⟩ (.int .i64 (tt : Int))) rfl ?_ hy2 (fun _ _ => trivial) ?_
  · clear hy2 hy
    go_simp
    try rw [hmin]
  clear hy2 hy q1 fr1 y
  apply ord_norm
  · go_simp; rfl
  refine ord_nil fun z hz => ?_
  have HZ := hid hz
  clear hz HB k15
  go_wp2_with fail
  refine wp_region_ordS (fun i => i == 9) (.pure 0 (.pure 1 (.pure 2 (.pure 3 (.pure 4 (.pure 5 (.eff 6 (.pure 7 (.pure 8 (.eff 9 .nil)))))))))) (fun y => SrcC y q s (.slice da s.data.length dc) (.slice (some ⟨g, 0, none⟩) s.wanted.length wc) ∧ y.cell? ⟨w.heap.size + 1, 0, none⟩ = some (.int .i64 (f : Int)) ∧ y.cell? ⟨w.heap.size + 1, 1, none⟩ = some (.int .i64 (tt : Int))) (fun y => Sts W (blkP (w.heap.size + 1) (.cells #[.int .i64 (f : Int), .int .i64 (tt : Int)] 81 (0, 0)) :: blkP w.heap.size (.cells zeroPdu 45 (0, 0)) :: blkP q (.cells (s.cells (.slice da s.data.length dc) (.slice (some ⟨g, 0, none⟩) s.wanted.length wc)) 64 (0, 0)) :: rowP 5 1 (.slice da s.data.length dc) s.data.length (u8s s.data) :: rowP 81 2 (.slice (some ⟨g, 0, none⟩) s.wanted.length wc) s.wanted.length (Fil.rcells s.wanted) :: l) y) (by kernel_rfl) (by kernel_rfl) (HZ.out.drew HLB2.out) (fun y hy => ⟨Sts.srcC hy.tail.tail, (Sts.boxCell hy 0 _ rfl).1, (Sts.boxCell hy 1 _ rfl).1⟩) ?_
  iterate 6
    (apply ord_pure (ho := rfl)
     · go_simp
     · intro x hx; obtain ⟨hC, q0, q1⟩ := hx; have k6 := hC.k6; have k15 := hC.k15; clear hC; go_simp; rfl
     apply ord_norm
     · go_simp; rfl)
  apply ord_eff (ho := rfl)
  · go_simp
  intro y hy
  have hrow := ((hy.perm (List.perm_middle (l₁ := [_, _, _, _]) (l₂ := l))))
  refine eff_call (f := 106) (by go_simp) (cRemoveR y (.slice (some ⟨g, 0, none⟩) s.wanted.length wc) s.wanted (f : Int) (tt : Int) (RdR.of_own (Sts.rowOwnK hrow) rfl) HWL.out) ?_
  rintro e w2 ⟨r, rfl, hN⟩
  have hs2 := Sts.newR HLB2.out hy hN
  obtain ⟨ra, rc, hre⟩ := hN.rd.eq
  subst hre
  generalize hrn : (Rng.remV s.wanted ((f : Int), (tt : Int))).length = rn at *
  refine ⟨_, rfl, (fun y => SrcC y q s (.slice da s.data.length dc) (.slice (some ⟨g, 0, none⟩) s.wanted.length wc) ∧ y.cell? ⟨w.heap.size + 1, 0, none⟩ = some (.int .i64 (f : Int)) ∧ y.cell? ⟨w.heap.size + 1, 1, none⟩ = some (.int .i64 (tt : Int))), (fun y => Sts W (rowP 81 2 (.slice ra rn rc) rn (Fil.rcells (Rng.remV s.wanted ((f : Int), (tt : Int)))) :: blkP (w.heap.size + 1) (.cells #[.int .i64 (f : Int), .int .i64 (tt : Int)] 81 (0, 0)) :: blkP w.heap.size (.cells zeroPdu 45 (0, 0)) :: blkP q (.cells (s.cells (.slice da s.data.length dc) (.slice (some ⟨g, 0, none⟩) s.wanted.length wc)) 64 (0, 0)) :: rowP 5 1 (.slice da s.data.length dc) s.data.length (u8s s.data) :: rowP 81 2 (.slice (some ⟨g, 0, none⟩) s.wanted.length wc) s.wanted.length (Fil.rcells s.wanted) :: l) y), hs2, (fun z hz => ⟨Sts.srcC hz.tail.tail.tail, (Sts.boxCell hz.tail 0 _ rfl).1, (Sts.boxCell hz.tail 1 _ rfl).1⟩), (fun _ h => h), ?_⟩
  clear hs2 hN hy y hrow
  apply ord_norm
  · go_simp; rfl
  iterate 2
    (apply ord_pure (ho := rfl)
     · go_simp
     · intro x hx; obtain ⟨hC, q0, q1⟩ := hx; have k6 := hC.k6; have k15 := hC.k15; clear hC; go_simp; rfl
     apply ord_norm
     · go_simp; rfl)
  apply ord_eff (ho := rfl)
  · go_simp
  intro y hy
  have hC := Sts.srcC hy.tail.tail.tail
  have k15 := hC.k15
  have fr15 := hC.fr 15
  clear hC
  -- the sending end first, the old row away
  have hp1 := (hy.perm (List.perm_middle (l₁ := [_, _, _, _, _]) (l₂ := l))).tail
  have hp2 := hp1.perm (List.perm_middle (l₁ := [_, _, _]) (l₂ := _ :: l))
  have hst := Sts.store (stabC (rowP_stable _ _ _ _ _) (stabC (blkP_stable _ _) (stabC (blkP_stable _ _) (stabC (rowP_stable _ _ _ _ _) HL.out)))) hp2 (j := 15) (.slice ra rn rc)
  refine effS_skip (fun _ => True) (fun y => Sts W (blkP q (.cells ((s.cells (.slice da s.data.length dc) (.slice (some ⟨g, 0, none⟩) s.wanted.length wc)).setIfInBounds 15 (.slice ra rn rc)) 64 (0, 0)) :: rowP 81 2 (.slice ra rn rc) rn (Fil.rcells (Rng.remV s.wanted ((f : Int), (tt : Int)))) :: blkP (w.heap.size + 1) (.cells #[.int .i64 (f : Int), .int .i64 (tt : Int)] 81 (0, 0)) :: blkP w.heap.size (.cells zeroPdu 45 (0, 0)) :: rowP 5 1 (.slice da s.data.length dc) s.data.length (u8s s.data) :: l) y) (w := y.setCell ⟨q, 15, none⟩ (.slice ra rn rc)) rfl ?_ hst (fun _ _ => trivial) ?_
  · clear hst hp1 hp2 hy
    go_simp
  clear hst hp1 hp2 hy k15 fr15 y
  apply ord_norm
  · go_simp; rfl
  refine ord_nil fun z hz => ?_
  clear HZ
  subst hrn
  have b0 := (Sts.boxCell hz.tail.tail 0 _ rfl).1
  have b1 := (Sts.boxCell hz.tail.tail 1 _ rfl).1
  have hs1 := Sts.shutSrc (s := { s with wanted := Rng.remV s.wanted ((f : Int), (tt : Int)) }) (dv := .slice da s.data.length dc) (wv := .slice ra (Rng.remV s.wanted ((f : Int), (tt : Int))).length rc) (hz.perm ((List.perm_middle (l₁ := [_, _, _]) (l₂ := l)).cons _))
  have HP := cPieceS (stabC (blkP_stable _ _) (stabC (blkP_stable _ _) HL.out)) q { s with wanted := Rng.remV s.wanted ((f : Int), (tt : Int)) } hs1 HN.out HBT.out f tt t1 t2
  simp only [] at HP
  rw [← hsub.out] at HP
  replace HP := hid HP
  clear hs1 hz hsub
  go_wp2_with (first | (go_at_call 107; refine HP.out.mono ?_; rintro e w2 ⟨pa, pc, he, hw2⟩; obtain rfl : e = .returned (.agg #[.int .i64 2, .int .i64 s.src, .int .i64 s.num, .int .i64 0, .string ⟨#[]⟩, .int .i64 0, .int .i64 (f : Nat), .slice pa sub.length pc, .int .u32 0, .int .i64 0, .slice none 0 0]) := he; have HS := hid ((hw2).perm (List.perm_middle (l₁ := [_, _, _]) (l₂ := l))); have fz : ∀ j, w2.frozen? ⟨w.heap.size, j, none⟩ = false := fun j => (by obtain ⟨F, hF⟩ := HS.out.head; exact free_blk hF.1); have z0 := (Sts.boxCell HS.out 0 _ rfl).1; have z1 := (Sts.boxCell HS.out 1 _ rfl).1; have z2 := (Sts.boxCell HS.out 2 _ rfl).1; have z3 := (Sts.boxCell HS.out 3 _ rfl).1; have z4 := (Sts.boxCell HS.out 4 _ rfl).1; have z5 := (Sts.boxCell HS.out 5 _ rfl).1; have z6 := (Sts.boxCell HS.out 6 _ rfl).1; have z7 := (Sts.boxCell HS.out 7 _ rfl).1; have z8 := (Sts.boxCell HS.out 8 _ rfl).1; have z9 := (Sts.boxCell HS.out 9 _ rfl).1; have z10 := (Sts.boxCell HS.out 10 _ rfl).1; clear hw2 HP))
  have hf := Sts.storeAll (stabC (srcP_stable _ _) (stabC (rowP_stable _ _ _ _ _) (stabC (blkP_stable _ _) HL.out))) (Fil.pieceP s f pa sub pc).cells.toList 0 _ _ HS.out
  rw [show putAll 0 (Fil.pieceP s f pa sub pc).cells.toList zeroPdu = (Fil.pieceP s f pa sub pc).cells by kernel_rfl] at hf
  clear HS fz z0 z1 z2 z3 z4 z5 z6 z7 z8 z9 z10
  refine (show ∀ z, Sts W (blkP w.heap.size (.cells (Fil.pieceP s f pa sub pc).cells 45 (0, 0)) :: srcP q { s with wanted := Rng.remV s.wanted ((f : Int), (tt : Int)) } :: rowP 5 1 (.slice pa sub.length pc) sub.length (u8s sub) :: blkP (w.heap.size + 1) (.cells #[.int .i64 (f : Int), .int .i64 (tt : Int)] 81 (0, 0)) :: l) z → bodyPost _ _ _ _ _ z from ?_) _ hf
  clear hf
  intro z hz
  have e0 : z.cell? ⟨w.heap.size, 0, none⟩ = some (.int .i64 2) := (Sts.boxCell hz 0 _ rfl).1
  have e1 : z.cell? ⟨w.heap.size, 1, none⟩ = some (.int .i64 s.src) := (Sts.boxCell hz 1 _ rfl).1
  have e2 : z.cell? ⟨w.heap.size, 2, none⟩ = some (.int .i64 s.num) := (Sts.boxCell hz 2 _ rfl).1
  have e3 : z.cell? ⟨w.heap.size, 3, none⟩ = some (.int .i64 0) := (Sts.boxCell hz 3 _ rfl).1
  have e4 : z.cell? ⟨w.heap.size, 4, none⟩ = some (.string ⟨#[]⟩) := (Sts.boxCell hz 4 _ rfl).1
  have e5 : z.cell? ⟨w.heap.size, 5, none⟩ = some (.int .i64 0) := (Sts.boxCell hz 5 _ rfl).1
  have e6 : z.cell? ⟨w.heap.size, 6, none⟩ = some (.int .i64 (f : Nat)) := (Sts.boxCell hz 6 _ rfl).1
  have e7 : z.cell? ⟨w.heap.size, 7, none⟩ = some (.slice pa sub.length pc) := (Sts.boxCell hz 7 _ rfl).1
  have e8 : z.cell? ⟨w.heap.size, 8, none⟩ = some (.int .u32 0) := (Sts.boxCell hz 8 _ rfl).1
  have e9 : z.cell? ⟨w.heap.size, 9, none⟩ = some (.int .i64 0) := (Sts.boxCell hz 9 _ rfl).1
  have e10 : z.cell? ⟨w.heap.size, 10, none⟩ = some (.slice none 0 0) := (Sts.boxCell hz 10 _ rfl).1
  have HF := hid hz
  clear hz
  refine bodyPost_ret (v := .agg #[.int .i64 2, .int .i64 s.src, .int .i64 s.num, .int .i64 0, .string ⟨#[]⟩, .int .i64 0, .int .i64 (f : Nat), .slice pa sub.length pc, .int .u32 0, .int .i64 0, .slice none 0 0]) ?_ rfl ⟨pa, pc, rfl, ((HF.out.tail).perm (List.perm_middle (l₁ := [_, _]) (l₂ := l))).tail⟩
  simp [results, Try.results64, go_sem, e0, e1, e2, e3, e4, e5, e6, e7, e8, e9, e10]
end
end Go.Proofs.Ytfjadhkhmhnccaa
namespace Fil
def Src.quietB (s : Src) : Bool := !(s.phase == 1) || s.acked || decide (s.now < s.timer + s.timeout)
end Fil
namespace Go.Proofs.Ytfjadhkhmhnccaa
open Go.RowKit Go.Proofs.Num
theorem zeroAgain {W w : World} {b : Nat} {R : List HProp} (hR : ∀ B ∈ R, Stable B) (hz : ∀ B ∈ blkP b (.cells zeroPdu 45 (0, 0)) :: R, Stable B) (h : Sts W (blkP b (.cells zeroPdu 45 (0, 0)) :: R) w) (n : Nat) :
    Sts W (blkP b (.cells zeroPdu 45 (0, 0)) :: R) (setAll b 0 zeroPdu.toList (w.drewN n)) := by
  have hf := Sts.storeAll hR zeroPdu.toList 0 _ _ (h.quiet hz (below_drewN (Below.refl _ _) n))
  rw [show putAll 0 zeroPdu.toList zeroPdu = zeroPdu by kernel_rfl] at hf
  exact hf
theorem zeroAgain0 {W w : World} {b : Nat} {R : List HProp} (hR : ∀ B ∈ R, Stable B) (h : Sts W (blkP b (.cells zeroPdu 45 (0, 0)) :: R) w) :
    Sts W (blkP b (.cells zeroPdu 45 (0, 0)) :: R) (setAll b 0 zeroPdu.toList w) := by
  have hf := Sts.storeAll hR zeroPdu.toList 0 _ _ h
  rw [show putAll 0 zeroPdu.toList zeroPdu = zeroPdu by kernel_rfl] at hf
  exact hf
section
variable {W w : World} {l : List HProp} (hl : ∀ B ∈ l, Stable B) (q : Nat) (s : Fil.Src) (hs : Sts W (srcP q s :: l) w)
include hl hs
set_option maxRecDepth 100000 in
set_option maxHeartbeats 1000000 in
theorem cRepNo (hT : 0 ≤ s.timer + s.timeout ∧ s.timer + s.timeout < 4611686018427387904) (hq : s.quietB = true) : Calls Try.prog 66 #[.pointer (some ⟨q, 0, none⟩)] w fun e w' => e = .returned (.tuple #[.agg zeroPdu, .bool false]) ∧ Sts W (srcP q s :: l) w' := by
  obtain ⟨dv, wv, h⟩ := Sts.openSrc hs
  obtain ⟨da, dc, hde⟩ := (Rd.of_own (Sts.rowOwn (h.swap)) (u8s_len _)).eq
  rw [u8s_len] at hde
  subst hde
  have hl3 : ∀ B ∈ blkP q (.cells (s.cells (.slice da s.data.length dc) wv) 64 (0, 0)) :: rowP 5 1 (.slice da s.data.length dc) s.data.length (u8s s.data) :: rowP 81 2 wv s.wanted.length (Fil.rcells s.wanted) :: l, Stable B := stabC (blkP_stable _ _) (stabC (rowP_stable _ _ _ _ _) (stabC (rowP_stable _ _ _ _ _) hl))
  have hz : Sts W (blkP w.heap.size (.cells zeroPdu 45 (0, 0)) :: blkP q (.cells (s.cells (.slice da s.data.length dc) wv) 64 (0, 0)) :: rowP 5 1 (.slice da s.data.length dc) s.data.length (u8s s.data) :: rowP 81 2 wv s.wanted.length (Fil.rcells s.wanted) :: l) (w.alloc (.cells #[.int .i64 0, .int .i64 0, .int .i64 0, .int .i64 0, .string ⟨#[]⟩, .int .i64 0, .int .i64 0, .slice none 0 0, .int .u32 0, .int .i64 0, .slice none 0 0] 45)) := h.alloc hl3 (.cells zeroPdu 45 (0, 0))
  have hl4 : ∀ B ∈ blkP w.heap.size (.cells zeroPdu 45 (0, 0)) :: rowP 5 1 (.slice da s.data.length dc) s.data.length (u8s s.data) :: rowP 81 2 wv s.wanted.length (Fil.rcells s.wanted) :: l, Stable B := stabC (blkP_stable _ _) (stabC (rowP_stable _ _ _ _ _) (stabC (rowP_stable _ _ _ _ _) hl))
  have hlz : ∀ B ∈ blkP w.heap.size (.cells zeroPdu 45 (0, 0)) :: blkP q (.cells (s.cells (.slice da s.data.length dc) wv) 64 (0, 0)) :: rowP 5 1 (.slice da s.data.length dc) s.data.length (u8s s.data) :: rowP 81 2 wv s.wanted.length (Fil.rcells s.wanted) :: l, Stable B := stabC (blkP_stable _ _) hl3
  have hl6 : ∀ B ∈ blkP w.heap.size (.cells zeroPdu 45 (0, 0)) :: l, Stable B := stabC (blkP_stable _ _) hl
  have hC := Sts.srcC hz.swap
  have k6 := hC.k6
  have k7 := hC.k7
  have k8 := hC.k8
  have k9 := hC.k9
  have k10 := hC.k10
  have k16 := hC.k16
  have k17 := hC.k17
  have k18 := hC.k18
  have hwr : IntKind.i64.wrap (s.timer + s.timeout) = s.timer + s.timeout := by rw [IntKind.wrap_i64]; omega
  have HS := hid hz
  clear hC hz h hs hT
  unfold Fil.Src.quietB at hq
  cases hp : (s.phase != 1) with
  | true =>
    clear hq
    go_enter Try.func66, Try.ntmps66
    go_wp2_with fail
    go_quiet (fail)
    go_wp2_with fail
    clear k6 k7 k8 k9 k10 k16 k17 k18
    refine (show ∀ z, Sts W (blkP w.heap.size (.cells zeroPdu 45 (0, 0)) :: blkP q (.cells (s.cells (.slice da s.data.length dc) wv) 64 (0, 0)) :: rowP 5 1 (.slice da s.data.length dc) s.data.length (u8s s.data) :: rowP 81 2 wv s.wanted.length (Fil.rcells s.wanted) :: l) z → bodyPost _ _ _ _ _ z from ?_) _ (zeroAgain hl3 hlz HS.out _)
    intro z hz
    have e0 : z.cell? ⟨w.heap.size, 0, none⟩ = some (.int .i64 0) := (Sts.boxCell hz 0 _ rfl).1
    have e1 : z.cell? ⟨w.heap.size, 1, none⟩ = some (.int .i64 0) := (Sts.boxCell hz 1 _ rfl).1
    have e2 : z.cell? ⟨w.heap.size, 2, none⟩ = some (.int .i64 0) := (Sts.boxCell hz 2 _ rfl).1
    have e3 : z.cell? ⟨w.heap.size, 3, none⟩ = some (.int .i64 0) := (Sts.boxCell hz 3 _ rfl).1
    have e4 : z.cell? ⟨w.heap.size, 4, none⟩ = some (.string ⟨#[]⟩) := (Sts.boxCell hz 4 _ rfl).1
    have e5 : z.cell? ⟨w.heap.size, 5, none⟩ = some (.int .i64 0) := (Sts.boxCell hz 5 _ rfl).1
    have e6 : z.cell? ⟨w.heap.size, 6, none⟩ = some (.int .i64 0) := (Sts.boxCell hz 6 _ rfl).1
    have e7 : z.cell? ⟨w.heap.size, 7, none⟩ = some (.slice none 0 0) := (Sts.boxCell hz 7 _ rfl).1
    have e8 : z.cell? ⟨w.heap.size, 8, none⟩ = some (.int .u32 0) := (Sts.boxCell hz 8 _ rfl).1
    have e9 : z.cell? ⟨w.heap.size, 9, none⟩ = some (.int .i64 0) := (Sts.boxCell hz 9 _ rfl).1
    have e10 : z.cell? ⟨w.heap.size, 10, none⟩ = some (.slice none 0 0) := (Sts.boxCell hz 10 _ rfl).1
    have HF := hid hz
    clear hz
    refine bodyPost_ret (v := .tuple #[.agg #[.int .i64 0, .int .i64 0, .int .i64 0, .int .i64 0, .string ⟨#[]⟩, .int .i64 0, .int .i64 0, .slice none 0 0, .int .u32 0, .int .i64 0, .slice none 0 0], .bool false]) ?_ rfl ⟨rfl, Sts.shutSrc HF.out.tail⟩
    simp [results, Try.results66, go_sem, e0, e1, e2, e3, e4, e5, e6, e7, e8, e9, e10]
  | false =>
    have hp1 : s.phase = 1 := by simpa using hp
    rw [hp1] at k10
    have hq2 : (s.acked || decide (s.now < s.timer + s.timeout)) = true := by simpa [hp1] using hq
    clear hq hp hp1
    cases ha : s.acked with
    | true =>
      rw [ha] at k16
      clear hq2
      go_enter Try.func66, Try.ntmps66
      go_wp2_with fail
      go_quiet (fail)
      go_wp2_with fail
      clear k6 k7 k8 k9 k10 k16 k17 k18
      refine (show ∀ z, Sts W (blkP w.heap.size (.cells zeroPdu 45 (0, 0)) :: blkP q (.cells (s.cells (.slice da s.data.length dc) wv) 64 (0, 0)) :: rowP 5 1 (.slice da s.data.length dc) s.data.length (u8s s.data) :: rowP 81 2 wv s.wanted.length (Fil.rcells s.wanted) :: l) z → bodyPost _ _ _ _ _ z from ?_) _ (zeroAgain hl3 hlz HS.out _)
      intro z hz
      have e0 : z.cell? ⟨w.heap.size, 0, none⟩ = some (.int .i64 0) := (Sts.boxCell hz 0 _ rfl).1
      have e1 : z.cell? ⟨w.heap.size, 1, none⟩ = some (.int .i64 0) := (Sts.boxCell hz 1 _ rfl).1
      have e2 : z.cell? ⟨w.heap.size, 2, none⟩ = some (.int .i64 0) := (Sts.boxCell hz 2 _ rfl).1
      have e3 : z.cell? ⟨w.heap.size, 3, none⟩ = some (.int .i64 0) := (Sts.boxCell hz 3 _ rfl).1
      have e4 : z.cell? ⟨w.heap.size, 4, none⟩ = some (.string ⟨#[]⟩) := (Sts.boxCell hz 4 _ rfl).1
      have e5 : z.cell? ⟨w.heap.size, 5, none⟩ = some (.int .i64 0) := (Sts.boxCell hz 5 _ rfl).1
      have e6 : z.cell? ⟨w.heap.size, 6, none⟩ = some (.int .i64 0) := (Sts.boxCell hz 6 _ rfl).1
      have e7 : z.cell? ⟨w.heap.size, 7, none⟩ = some (.slice none 0 0) := (Sts.boxCell hz 7 _ rfl).1
      have e8 : z.cell? ⟨w.heap.size, 8, none⟩ = some (.int .u32 0) := (Sts.boxCell hz 8 _ rfl).1
      have e9 : z.cell? ⟨w.heap.size, 9, none⟩ = some (.int .i64 0) := (Sts.boxCell hz 9 _ rfl).1
      have e10 : z.cell? ⟨w.heap.size, 10, none⟩ = some (.slice none 0 0) := (Sts.boxCell hz 10 _ rfl).1
      have HF := hid hz
      clear hz
      refine bodyPost_ret (v := .tuple #[.agg #[.int .i64 0, .int .i64 0, .int .i64 0, .int .i64 0, .string ⟨#[]⟩, .int .i64 0, .int .i64 0, .slice none 0 0, .int .u32 0, .int .i64 0, .slice none 0 0], .bool false]) ?_ rfl ⟨rfl, Sts.shutSrc HF.out.tail⟩
      simp [results, Try.results66, go_sem, e0, e1, e2, e3, e4, e5, e6, e7, e8, e9, e10]
    | false =>
      rw [ha] at k16 hq2
      have hd : decide (s.now < s.timer + s.timeout) = true := by simpa using hq2
      clear hq2
      go_enter Try.func66, Try.ntmps66
      go_wp2_with fail
      go_quiet (fail)
      go_wp2_with fail
      clear k6 k7 k8 k9 k10 k16 k17 k18
      refine (show ∀ z, Sts W (blkP w.heap.size (.cells zeroPdu 45 (0, 0)) :: blkP q (.cells (s.cells (.slice da s.data.length dc) wv) 64 (0, 0)) :: rowP 5 1 (.slice da s.data.length dc) s.data.length (u8s s.data) :: rowP 81 2 wv s.wanted.length (Fil.rcells s.wanted) :: l) z → bodyPost _ _ _ _ _ z from ?_) _ (zeroAgain hl3 hlz HS.out _)
      intro z hz
      have e0 : z.cell? ⟨w.heap.size, 0, none⟩ = some (.int .i64 0) := (Sts.boxCell hz 0 _ rfl).1
      have e1 : z.cell? ⟨w.heap.size, 1, none⟩ = some (.int .i64 0) := (Sts.boxCell hz 1 _ rfl).1
      have e2 : z.cell? ⟨w.heap.size, 2, none⟩ = some (.int .i64 0) := (Sts.boxCell hz 2 _ rfl).1
      have e3 : z.cell? ⟨w.heap.size, 3, none⟩ = some (.int .i64 0) := (Sts.boxCell hz 3 _ rfl).1
      have e4 : z.cell? ⟨w.heap.size, 4, none⟩ = some (.string ⟨#[]⟩) := (Sts.boxCell hz 4 _ rfl).1
      have e5 : z.cell? ⟨w.heap.size, 5, none⟩ = some (.int .i64 0) := (Sts.boxCell hz 5 _ rfl).1
      have e6 : z.cell? ⟨w.heap.size, 6, none⟩ = some (.int .i64 0) := (Sts.boxCell hz 6 _ rfl).1
      have e7 : z.cell? ⟨w.heap.size, 7, none⟩ = some (.slice none 0 0) := (Sts.boxCell hz 7 _ rfl).1
      have e8 : z.cell? ⟨w.heap.size, 8, none⟩ = some (.int .u32 0) := (Sts.boxCell hz 8 _ rfl).1
      have e9 : z.cell? ⟨w.heap.size, 9, none⟩ = some (.int .i64 0) := (Sts.boxCell hz 9 _ rfl).1
      have e10 : z.cell? ⟨w.heap.size, 10, none⟩ = some (.slice none 0 0) := (Sts.boxCell hz 10 _ rfl).1
      have HF := hid hz
      clear hz
      refine bodyPost_ret (v := .tuple #[.agg #[.int .i64 0, .int .i64 0, .int .i64 0, .int .i64 0, .string ⟨#[]⟩, .int .i64 0, .int .i64 0, .slice none 0 0, .int .u32 0, .int .i64 0, .slice none 0 0], .bool false]) ?_ rfl ⟨rfl, Sts.shutSrc HF.out.tail⟩
      simp [results, Try.results66, go_sem, e0, e1, e2, e3, e4, e5, e6, e7, e8, e9, e10]
set_option maxRecDepth 100000 in
set_option maxHeartbeats 2000000 in
theorem cRepFail (hT : 0 ≤ s.timer + s.timeout ∧ s.timer + s.timeout < 4611686018427387904) (hp : s.phase = 1) (ha : s.acked = false) (hd : decide (s.now < s.timer + s.timeout) = false) (hr : decide (s.retries ≤ s.tries) = true) : Calls Try.prog 66 #[.pointer (some ⟨q, 0, none⟩)] w fun e w' => e = .returned (.tuple #[.agg zeroPdu, .bool false]) ∧ Sts W (srcP q { s with phase := 5, code := 10 } :: l) w' := by
  obtain ⟨dv, wv, h⟩ := Sts.openSrc hs
  obtain ⟨da, dc, hde⟩ := (Rd.of_own (Sts.rowOwn (h.swap)) (u8s_len _)).eq
  rw [u8s_len] at hde
  subst hde
  have hl3 : ∀ B ∈ blkP q (.cells (s.cells (.slice da s.data.length dc) wv) 64 (0, 0)) :: rowP 5 1 (.slice da s.data.length dc) s.data.length (u8s s.data) :: rowP 81 2 wv s.wanted.length (Fil.rcells s.wanted) :: l, Stable B := stabC (blkP_stable _ _) (stabC (rowP_stable _ _ _ _ _) (stabC (rowP_stable _ _ _ _ _) hl))
  have hz : Sts W (blkP w.heap.size (.cells zeroPdu 45 (0, 0)) :: blkP q (.cells (s.cells (.slice da s.data.length dc) wv) 64 (0, 0)) :: rowP 5 1 (.slice da s.data.length dc) s.data.length (u8s s.data) :: rowP 81 2 wv s.wanted.length (Fil.rcells s.wanted) :: l) (w.alloc (.cells #[.int .i64 0, .int .i64 0, .int .i64 0, .int .i64 0, .string ⟨#[]⟩, .int .i64 0, .int .i64 0, .slice none 0 0, .int .u32 0, .int .i64 0, .slice none 0 0] 45)) := h.alloc hl3 (.cells zeroPdu 45 (0, 0))
  have hl4 : ∀ B ∈ blkP w.heap.size (.cells zeroPdu 45 (0, 0)) :: rowP 5 1 (.slice da s.data.length dc) s.data.length (u8s s.data) :: rowP 81 2 wv s.wanted.length (Fil.rcells s.wanted) :: l, Stable B := stabC (blkP_stable _ _) (stabC (rowP_stable _ _ _ _ _) (stabC (rowP_stable _ _ _ _ _) hl))
  have hlz : ∀ B ∈ blkP w.heap.size (.cells zeroPdu 45 (0, 0)) :: blkP q (.cells (s.cells (.slice da s.data.length dc) wv) 64 (0, 0)) :: rowP 5 1 (.slice da s.data.length dc) s.data.length (u8s s.data) :: rowP 81 2 wv s.wanted.length (Fil.rcells s.wanted) :: l, Stable B := stabC (blkP_stable _ _) hl3
  have hl6 : ∀ B ∈ blkP w.heap.size (.cells zeroPdu 45 (0, 0)) :: l, Stable B := stabC (blkP_stable _ _) hl
  have hC := Sts.srcC hz.swap
  have k6 := hC.k6
  have k7 := hC.k7
  have k8 := hC.k8
  have k9 := hC.k9
  have k10 := hC.k10
  have k16 := hC.k16
  have k17 := hC.k17
  have k18 := hC.k18
  have hwr : IntKind.i64.wrap (s.timer + s.timeout) = s.timer + s.timeout := by rw [IntKind.wrap_i64]; omega
  have hl3' : ∀ B ∈ blkP q (.cells (({ s with phase := 5, code := 10 } : Fil.Src).cells (.slice da s.data.length dc) wv) 64 (0, 0)) :: rowP 5 1 (.slice da s.data.length dc) s.data.length (u8s s.data) :: rowP 81 2 wv s.wanted.length (Fil.rcells s.wanted) :: l, Stable B := stabC (blkP_stable _ _) (stabC (rowP_stable _ _ _ _ _) (stabC (rowP_stable _ _ _ _ _) hl))
  rw [hp] at k10
  rw [ha] at k16
  have HS := hid hz
  clear hC hz h hs hT hp ha
  go_enter Try.func66, Try.ntmps66
  go_wp2_with fail
  go_quiet (fail)
  go_wp2_with fail
  go_quiet (fail)
  refine (show ∀ z, Sts W (blkP w.heap.size (.cells zeroPdu 45 (0, 0)) :: blkP q (.cells (s.cells (.slice da s.data.length dc) wv) 64 (0, 0)) :: rowP 5 1 (.slice da s.data.length dc) s.data.length (u8s s.data) :: rowP 81 2 wv s.wanted.length (Fil.rcells s.wanted) :: l) z → Exit.then _ _ _ _ z from ?_) _ ((HS.out.quiet hlz (below_drewN (Below.refl _ _) _)).quiet hlz (below_drewN (Below.refl _ _) _))
  clear HS hwr k6 k7 k8 k9 k10 k16 k17 k18
  intro z hz
  have hC := Sts.srcC hz.swap
  have k10 := hC.k10
  have fr10 := hC.fr 10
  have st1 := Sts.store hl4 hz.swap (j := 10) (.int .i64 5)
  have hB1 := Sts.srcC (dv := .slice da s.data.length dc) (wv := wv) (s := { s with phase := 5 }) st1
  have b20 := hB1.k20
  have f20 := hB1.fr 20
  dsimp only at b20
  have st2 := Sts.store hl4 st1 (j := 20) (.int .i64 10)
  have HS := hid st2.swap
  have fz : ∀ j, ((z.setCell ⟨q, 10, none⟩ (.int .i64 5)).setCell ⟨q, 20, none⟩ (.int .i64 10)).frozen? ⟨w.heap.size, j, none⟩ = false := fun j => by obtain ⟨F, hF⟩ := HS.out.head; exact free_blk hF.1
  have z0 := (Sts.boxCell HS.out 0 _ rfl).1
  have z1 := (Sts.boxCell HS.out 1 _ rfl).1
  have z2 := (Sts.boxCell HS.out 2 _ rfl).1
  have z3 := (Sts.boxCell HS.out 3 _ rfl).1
  have z4 := (Sts.boxCell HS.out 4 _ rfl).1
  have z5 := (Sts.boxCell HS.out 5 _ rfl).1
  have z6 := (Sts.boxCell HS.out 6 _ rfl).1
  have z7 := (Sts.boxCell HS.out 7 _ rfl).1
  have z8 := (Sts.boxCell HS.out 8 _ rfl).1
  have z9 := (Sts.boxCell HS.out 9 _ rfl).1
  have z10 := (Sts.boxCell HS.out 10 _ rfl).1
  clear hC st1 hB1 st2 hz
  go_wp2_with fail
  clear fz k10 fr10 b20 f20 z0 z1 z2 z3 z4 z5 z6 z7 z8 z9 z10
  refine (show ∀ z, Sts W (blkP w.heap.size (.cells zeroPdu 45 (0, 0)) :: blkP q (.cells (({ s with phase := 5, code := 10 } : Fil.Src).cells (.slice da s.data.length dc) wv) 64 (0, 0)) :: rowP 5 1 (.slice da s.data.length dc) s.data.length (u8s s.data) :: rowP 81 2 wv s.wanted.length (Fil.rcells s.wanted) :: l) z → bodyPost _ _ _ _ _ z from ?_) _ (zeroAgain0 hl3' HS.out)
  clear HS
  intro z hz
  have e0 : z.cell? ⟨w.heap.size, 0, none⟩ = some (.int .i64 0) := (Sts.boxCell hz 0 _ rfl).1
  have e1 : z.cell? ⟨w.heap.size, 1, none⟩ = some (.int .i64 0) := (Sts.boxCell hz 1 _ rfl).1
  have e2 : z.cell? ⟨w.heap.size, 2, none⟩ = some (.int .i64 0) := (Sts.boxCell hz 2 _ rfl).1
  have e3 : z.cell? ⟨w.heap.size, 3, none⟩ = some (.int .i64 0) := (Sts.boxCell hz 3 _ rfl).1
  have e4 : z.cell? ⟨w.heap.size, 4, none⟩ = some (.string ⟨#[]⟩) := (Sts.boxCell hz 4 _ rfl).1
  have e5 : z.cell? ⟨w.heap.size, 5, none⟩ = some (.int .i64 0) := (Sts.boxCell hz 5 _ rfl).1
  have e6 : z.cell? ⟨w.heap.size, 6, none⟩ = some (.int .i64 0) := (Sts.boxCell hz 6 _ rfl).1
  have e7 : z.cell? ⟨w.heap.size, 7, none⟩ = some (.slice none 0 0) := (Sts.boxCell hz 7 _ rfl).1
  have e8 : z.cell? ⟨w.heap.size, 8, none⟩ = some (.int .u32 0) := (Sts.boxCell hz 8 _ rfl).1
  have e9 : z.cell? ⟨w.heap.size, 9, none⟩ = some (.int .i64 0) := (Sts.boxCell hz 9 _ rfl).1
  have e10 : z.cell? ⟨w.heap.size, 10, none⟩ = some (.slice none 0 0) := (Sts.boxCell hz 10 _ rfl).1
  have HF := hid hz
  clear hz
  refine bodyPost_ret (v := .tuple #[.agg #[.int .i64 0, .int .i64 0, .int .i64 0, .int .i64 0, .string ⟨#[]⟩, .int .i64 0, .int .i64 0, .slice none 0 0, .int .u32 0, .int .i64 0, .slice none 0 0], .bool false]) ?_ rfl ⟨rfl, Sts.shutSrc (s := { s with phase := 5, code := 10 }) HF.out.tail⟩
  simp [results, Try.results66, go_sem, e0, e1, e2, e3, e4, e5, e6, e7, e8, e9, e10]
set_option maxRecDepth 100000 in
set_option maxHeartbeats 2000000 in
theorem cRepEof (hn : s.data.length < 100000000) (hb : ∀ x ∈ s.data, x < 256) (hT : 0 ≤ s.timer + s.timeout ∧ s.timer + s.timeout < 4611686018427387904) (hp : s.phase = 1) (ha : s.acked = false) (hd : decide (s.now < s.timer + s.timeout) = false) (hr : decide (s.retries ≤ s.tries) = false) (ht : 0 ≤ s.tries ∧ s.tries < 1000000) : Calls Try.prog 66 #[.pointer (some ⟨q, 0, none⟩)] w fun e w' => e = .returned (.tuple #[.agg (Fil.eofP s 0).cells, .bool true]) ∧ Sts W (srcP q { s with tries := s.tries + 1, timer := s.now } :: l) w' := by
  obtain ⟨dv, wv, h⟩ := Sts.openSrc hs
  obtain ⟨da, dc, hde⟩ := (Rd.of_own (Sts.rowOwn (h.swap)) (u8s_len _)).eq
  rw [u8s_len] at hde
  subst hde
  have hl3 : ∀ B ∈ blkP q (.cells (s.cells (.slice da s.data.length dc) wv) 64 (0, 0)) :: rowP 5 1 (.slice da s.data.length dc) s.data.length (u8s s.data) :: rowP 81 2 wv s.wanted.length (Fil.rcells s.wanted) :: l, Stable B := stabC (blkP_stable _ _) (stabC (rowP_stable _ _ _ _ _) (stabC (rowP_stable _ _ _ _ _) hl))
  have hz : Sts W (blkP w.heap.size (.cells zeroPdu 45 (0, 0)) :: blkP q (.cells (s.cells (.slice da s.data.length dc) wv) 64 (0, 0)) :: rowP 5 1 (.slice da s.data.length dc) s.data.length (u8s s.data) :: rowP 81 2 wv s.wanted.length (Fil.rcells s.wanted) :: l) (w.alloc (.cells #[.int .i64 0, .int .i64 0, .int .i64 0, .int .i64 0, .string ⟨#[]⟩, .int .i64 0, .int .i64 0, .slice none 0 0, .int .u32 0, .int .i64 0, .slice none 0 0] 45)) := h.alloc hl3 (.cells zeroPdu 45 (0, 0))
  have hl4 : ∀ B ∈ blkP w.heap.size (.cells zeroPdu 45 (0, 0)) :: rowP 5 1 (.slice da s.data.length dc) s.data.length (u8s s.data) :: rowP 81 2 wv s.wanted.length (Fil.rcells s.wanted) :: l, Stable B := stabC (blkP_stable _ _) (stabC (rowP_stable _ _ _ _ _) (stabC (rowP_stable _ _ _ _ _) hl))
  have hlz : ∀ B ∈ blkP w.heap.size (.cells zeroPdu 45 (0, 0)) :: blkP q (.cells (s.cells (.slice da s.data.length dc) wv) 64 (0, 0)) :: rowP 5 1 (.slice da s.data.length dc) s.data.length (u8s s.data) :: rowP 81 2 wv s.wanted.length (Fil.rcells s.wanted) :: l, Stable B := stabC (blkP_stable _ _) hl3
  have hl6 : ∀ B ∈ blkP w.heap.size (.cells zeroPdu 45 (0, 0)) :: l, Stable B := stabC (blkP_stable _ _) hl
  have hC := Sts.srcC hz.swap
  have k6 := hC.k6
  have k7 := hC.k7
  have k8 := hC.k8
  have k9 := hC.k9
  have k10 := hC.k10
  have k16 := hC.k16
  have k17 := hC.k17
  have k18 := hC.k18
  have hwr : IntKind.i64.wrap (s.timer + s.timeout) = s.timer + s.timeout := by rw [IntKind.wrap_i64]; omega
  have hwt : IntKind.i64.wrap (s.tries + 1) = s.tries + 1 := by rw [IntKind.wrap_i64]; omega
  rw [hp] at k10
  rw [ha] at k16
  have HS := hid hz
  clear hC hz h hs hT hp ha ht
  go_enter Try.func66, Try.ntmps66
  go_wp2_with fail
  go_quiet (fail)
  go_wp2_with fail
  go_quiet (fail)
  refine (show ∀ z, Sts W (blkP w.heap.size (.cells zeroPdu 45 (0, 0)) :: blkP q (.cells (s.cells (.slice da s.data.length dc) wv) 64 (0, 0)) :: rowP 5 1 (.slice da s.data.length dc) s.data.length (u8s s.data) :: rowP 81 2 wv s.wanted.length (Fil.rcells s.wanted) :: l) z → Exit.then _ _ _ _ z from ?_) _ ((HS.out.quiet hlz (below_drewN (Below.refl _ _) _)).quiet hlz (below_drewN (Below.refl _ _) _))
  clear HS hwr k6 k7 k8 k9 k10 k16 k17 k18
  intro z hz
  have hC := Sts.srcC hz.swap
  have k18 := hC.k18
  have fr18 := hC.fr 18
  have st1 := Sts.store hl4 hz.swap (j := 18) (.int .i64 (s.tries + 1))
  have hB1 := Sts.srcC (dv := .slice da s.data.length dc) (wv := wv) (s := { s with tries := s.tries + 1 }) st1
  have b17 := hB1.k17
  have b9 := hB1.k9
  have f17 := hB1.fr 17
  dsimp only at b17 b9
  have st2 := Sts.store hl4 st1 (j := 17) (.int .i64 s.now)
  have hs1 := Sts.shutSrc (s := { s with tries := s.tries + 1, timer := s.now }) (dv := .slice da s.data.length dc) (wv := wv) ((st2.swap).perm ((List.perm_middle (l₁ := [_, _, _]) (l₂ := l)).symm))
  have HM := hid (cEof hl6 q { s with tries := s.tries + 1, timer := s.now } hs1 hn hb 0)
  clear hs1 hC st1 hB1 st2 hz hb
  go_wp2_with (first | (go_at_call 62; refine HM.out.mono ?_; rintro e w2 ⟨he, hw2⟩; obtain rfl : e = .returned (.agg #[.int .i64 3, .int .i64 s.src, .int .i64 s.num, .int .i64 s.cls, .string ⟨#[]⟩, .int .i64 s.data.length, .int .i64 0, .slice none 0 0, .int .u32 (Fil.sumV s.data : Nat), .int .i64 0, .slice none 0 0]) := he; have HS := hid (hw2.swap); have fz : ∀ j, w2.frozen? ⟨w.heap.size, j, none⟩ = false := fun j => (by obtain ⟨F, hF⟩ := HS.out.head; exact free_blk hF.1); have z0 := (Sts.boxCell HS.out 0 _ rfl).1; have z1 := (Sts.boxCell HS.out 1 _ rfl).1; have z2 := (Sts.boxCell HS.out 2 _ rfl).1; have z3 := (Sts.boxCell HS.out 3 _ rfl).1; have z4 := (Sts.boxCell HS.out 4 _ rfl).1; have z5 := (Sts.boxCell HS.out 5 _ rfl).1; have z6 := (Sts.boxCell HS.out 6 _ rfl).1; have z7 := (Sts.boxCell HS.out 7 _ rfl).1; have z8 := (Sts.boxCell HS.out 8 _ rfl).1; have z9 := (Sts.boxCell HS.out 9 _ rfl).1; have z10 := (Sts.boxCell HS.out 10 _ rfl).1; clear hw2 HM))
  have hf := Sts.storeAll (stabC (srcP_stable _ _) hl) (Fil.eofP s 0).cells.toList 0 _ _ HS.out
  rw [show putAll 0 (Fil.eofP s 0).cells.toList zeroPdu = (Fil.eofP s 0).cells by kernel_rfl] at hf
  clear HS fz z0 z1 z2 z3 z4 z5 z6 z7 z8 z9 z10
  refine (show ∀ z, Sts W (blkP w.heap.size (.cells (Fil.eofP s 0).cells 45 (0, 0)) :: srcP q { s with tries := s.tries + 1, timer := s.now } :: l) z → bodyPost _ _ _ _ _ z from ?_) _ hf
  clear hf
  intro z hz
  have e0 : z.cell? ⟨w.heap.size, 0, none⟩ = some (.int .i64 3) := (Sts.boxCell hz 0 _ rfl).1
  have e1 : z.cell? ⟨w.heap.size, 1, none⟩ = some (.int .i64 s.src) := (Sts.boxCell hz 1 _ rfl).1
  have e2 : z.cell? ⟨w.heap.size, 2, none⟩ = some (.int .i64 s.num) := (Sts.boxCell hz 2 _ rfl).1
  have e3 : z.cell? ⟨w.heap.size, 3, none⟩ = some (.int .i64 s.cls) := (Sts.boxCell hz 3 _ rfl).1
  have e4 : z.cell? ⟨w.heap.size, 4, none⟩ = some (.string ⟨#[]⟩) := (Sts.boxCell hz 4 _ rfl).1
  have e5 : z.cell? ⟨w.heap.size, 5, none⟩ = some (.int .i64 s.data.length) := (Sts.boxCell hz 5 _ rfl).1
  have e6 : z.cell? ⟨w.heap.size, 6, none⟩ = some (.int .i64 0) := (Sts.boxCell hz 6 _ rfl).1
  have e7 : z.cell? ⟨w.heap.size, 7, none⟩ = some (.slice none 0 0) := (Sts.boxCell hz 7 _ rfl).1
  have e8 : z.cell? ⟨w.heap.size, 8, none⟩ = some (.int .u32 (Fil.sumV s.data : Nat)) := (Sts.boxCell hz 8 _ rfl).1
  have e9 : z.cell? ⟨w.heap.size, 9, none⟩ = some (.int .i64 0) := (Sts.boxCell hz 9 _ rfl).1
  have e10 : z.cell? ⟨w.heap.size, 10, none⟩ = some (.slice none 0 0) := (Sts.boxCell hz 10 _ rfl).1
  have HF := hid hz
  clear hz
  refine bodyPost_ret (v := .tuple #[.agg #[.int .i64 3, .int .i64 s.src, .int .i64 s.num, .int .i64 s.cls, .string ⟨#[]⟩, .int .i64 s.data.length, .int .i64 0, .slice none 0 0, .int .u32 (Fil.sumV s.data : Nat), .int .i64 0, .slice none 0 0], .bool true]) ?_ rfl ⟨rfl, HF.out.tail⟩
  simp [results, Try.results66, go_sem, e0, e1, e2, e3, e4, e5, e6, e7, e8, e9, e10]
end
end Go.Proofs.Ytfjadhkhmhnccaa
