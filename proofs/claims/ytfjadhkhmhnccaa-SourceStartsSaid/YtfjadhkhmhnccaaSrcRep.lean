/- The contracts of the repetition of the end. -/
import Derived.Test.YtfjadhkhmhnccaaSrcAgn
set_option linter.unusedVariables false
set_option linter.unusedSimpArgs false
namespace Fil
def Src.quietB (s : Src) : Bool := !(s.phase == 1) || s.acked || decide (s.now < s.timer + s.timeout)
end Fil
namespace Go.Proofs.Ytfjadhkhmhnccaa
open Go.RowKit Go.Proofs.Num
theorem zeroAgain {W w : World} {b : Nat} {R : List HProp} (hR : ∀ B ∈ R, Stable B) (hz : ∀ B ∈ blkP b (.cells zeroPdu 45 (0, 0)) :: R, Stable B) (h : Sts W (blkP b (.cells zeroPdu 45 (0, 0)) :: R) w) (n : Nat) :
    Sts W (blkP b (.cells zeroPdu 45 (0, 0)) :: R) (setAll b 0 zeroPdu.toList (w.drewN n)) := by
  have hf := Sts.storeAll hR zeroPdu.toList 0 _ _ (h.quiet hz (below_drewN (Below.refl _ _) n))
  rw [show putAll 0 zeroPdu.toList zeroPdu = zeroPdu by kernel_rfl] at hf
  exact hf
theorem zeroAgain0 {W w : World} {b : Nat} {R : List HProp} (hR : ∀ B ∈ R, Stable B) (h : Sts W (blkP b (.cells zeroPdu 45 (0, 0)) :: R) w) :
    Sts W (blkP b (.cells zeroPdu 45 (0, 0)) :: R) (setAll b 0 zeroPdu.toList w) := by
  have hf := Sts.storeAll hR zeroPdu.toList 0 _ _ h
  rw [show putAll 0 zeroPdu.toList zeroPdu = zeroPdu by kernel_rfl] at hf
  exact hf
section
variable {W w : World} {l : List HProp} (hl : ∀ B ∈ l, Stable B) (q : Nat) (s : Fil.Src) (hs : Sts W (srcP q s :: l) w)
include hl hs
set_option maxRecDepth 100000 in
set_option maxHeartbeats 1000000 in
theorem cRepNo (hT : 0 ≤ s.timer + s.timeout ∧ s.timer + s.timeout < 4611686018427387904) (hq : s.quietB = true) : Calls Try.prog 66 #[.pointer (some ⟨q, 0, none⟩)] w fun e w' => e = .returned (.tuple #[.agg zeroPdu, .bool false]) ∧ Sts W (srcP q s :: l) w' := by
  obtain ⟨dv, wv, h⟩ := Sts.openSrc hs
  obtain ⟨da, dc, hde⟩ := (Rd.of_own (Sts.rowOwn (h.swap)) (u8s_len _)).eq
  rw [u8s_len] at hde
  subst hde
  have hl3 : ∀ B ∈ blkP q (.cells (s.cells (.slice da s.data.length dc) wv) 64 (0, 0)) :: rowP 5 1 (.slice da s.data.length dc) s.data.length (u8s s.data) :: rowP 81 2 wv s.wanted.length (Fil.rcells s.wanted) :: l, Stable B := stabC (blkP_stable _ _) (stabC (rowP_stable _ _ _ _ _) (stabC (rowP_stable _ _ _ _ _) hl))
  have hz : Sts W (blkP w.heap.size (.cells zeroPdu 45 (0, 0)) :: blkP q (.cells (s.cells (.slice da s.data.length dc) wv) 64 (0, 0)) :: rowP 5 1 (.slice da s.data.length dc) s.data.length (u8s s.data) :: rowP 81 2 wv s.wanted.length (Fil.rcells s.wanted) :: l) (w.alloc (.cells #[.int .i64 0, .int .i64 0, .int .i64 0, .int .i64 0, .string ⟨#[]⟩, .int .i64 0, .int .i64 0, .slice none 0 0, .int .u32 0, .int .i64 0, .slice none 0 0] 45)) := h.alloc hl3 (.cells zeroPdu 45 (0, 0))
  have hl4 : ∀ B ∈ blkP w.heap.size (.cells zeroPdu 45 (0, 0)) :: rowP 5 1 (.slice da s.data.length dc) s.data.length (u8s s.data) :: rowP 81 2 wv s.wanted.length (Fil.rcells s.wanted) :: l, Stable B := stabC (blkP_stable _ _) (stabC (rowP_stable _ _ _ _ _) (stabC (rowP_stable _ _ _ _ _) hl))
  have hlz : ∀ B ∈ blkP w.heap.size (.cells zeroPdu 45 (0, 0)) :: blkP q (.cells (s.cells (.slice da s.data.length dc) wv) 64 (0, 0)) :: rowP 5 1 (.slice da s.data.length dc) s.data.length (u8s s.data) :: rowP 81 2 wv s.wanted.length (Fil.rcells s.wanted) :: l, Stable B := stabC (blkP_stable _ _) hl3
  have hl6 : ∀ B ∈ blkP w.heap.size (.cells zeroPdu 45 (0, 0)) :: l, Stable B := stabC (blkP_stable _ _) hl
  have hC := Sts.srcC hz.swap
  have k6 := hC.k6
  have k7 := hC.k7
  have k8 := hC.k8
  have k9 := hC.k9
  have k10 := hC.k10
  have k16 := hC.k16
  have k17 := hC.k17
  have k18 := hC.k18
  have hwr : IntKind.i64.wrap (s.timer + s.timeout) = s.timer + s.timeout := by rw [IntKind.wrap_i64]; omega
  have HS := hid hz
  clear hC hz h hs hT
  unfold Fil.Src.quietB at hq
  cases hp : (s.phase != 1) with
  | true =>
    clear hq
    go_enter Try.func66, Try.ntmps66
    go_wp2_with fail
    go_quiet (fail)
    go_wp2_with fail
    clear k6 k7 k8 k9 k10 k16 k17 k18
    refine (show ∀ z, Sts W (blkP w.heap.size (.cells zeroPdu 45 (0, 0)) :: blkP q (.cells (s.cells (.slice da s.data.length dc) wv) 64 (0, 0)) :: rowP 5 1 (.slice da s.data.length dc) s.data.length (u8s s.data) :: rowP 81 2 wv s.wanted.length (Fil.rcells s.wanted) :: l) z → bodyPost _ _ _ _ _ z from ?_) _ (zeroAgain hl3 hlz HS.out _)
    intro z hz
    have e0 : z.cell? ⟨w.heap.size, 0, none⟩ = some (.int .i64 0) := (Sts.boxCell hz 0 _ rfl).1
    have e1 : z.cell? ⟨w.heap.size, 1, none⟩ = some (.int .i64 0) := (Sts.boxCell hz 1 _ rfl).1
    have e2 : z.cell? ⟨w.heap.size, 2, none⟩ = some (.int .i64 0) := (Sts.boxCell hz 2 _ rfl).1
    have e3 : z.cell? ⟨w.heap.size, 3, none⟩ = some (.int .i64 0) := (Sts.boxCell hz 3 _ rfl).1
    have e4 : z.cell? ⟨w.heap.size, 4, none⟩ = some (.string ⟨#[]⟩) := (Sts.boxCell hz 4 _ rfl).1
    have e5 : z.cell? ⟨w.heap.size, 5, none⟩ = some (.int .i64 0) := (Sts.boxCell hz 5 _ rfl).1
    have e6 : z.cell? ⟨w.heap.size, 6, none⟩ = some (.int .i64 0) := (Sts.boxCell hz 6 _ rfl).1
    have e7 : z.cell? ⟨w.heap.size, 7, none⟩ = some (.slice none 0 0) := (Sts.boxCell hz 7 _ rfl).1
    have e8 : z.cell? ⟨w.heap.size, 8, none⟩ = some (.int .u32 0) := (Sts.boxCell hz 8 _ rfl).1
    have e9 : z.cell? ⟨w.heap.size, 9, none⟩ = some (.int .i64 0) := (Sts.boxCell hz 9 _ rfl).1
    have e10 : z.cell? ⟨w.heap.size, 10, none⟩ = some (.slice none 0 0) := (Sts.boxCell hz 10 _ rfl).1
    have HF := hid hz
    clear hz
    refine bodyPost_ret (v := .tuple #[.agg #[.int .i64 0, .int .i64 0, .int .i64 0, .int .i64 0, .string ⟨#[]⟩, .int .i64 0, .int .i64 0, .slice none 0 0, .int .u32 0, .int .i64 0, .slice none 0 0], .bool false]) ?_ rfl ⟨rfl, Sts.shutSrc HF.out.tail⟩
    simp [results, Try.results66, go_sem, e0, e1, e2, e3, e4, e5, e6, e7, e8, e9, e10]
  | false =>
    have hp1 : s.phase = 1 := by simpa using hp
    rw [hp1] at k10
    have hq2 : (s.acked || decide (s.now < s.timer + s.timeout)) = true := by simpa [hp1] using hq
    clear hq hp hp1
    cases ha : s.acked with
    | true =>
      rw [ha] at k16
      clear hq2
      go_enter Try.func66, Try.ntmps66
      go_wp2_with fail
      go_quiet (fail)
      go_wp2_with fail
      clear k6 k7 k8 k9 k10 k16 k17 k18
      refine (show ∀ z, Sts W (blkP w.heap.size (.cells zeroPdu 45 (0, 0)) :: blkP q (.cells (s.cells (.slice da s.data.length dc) wv) 64 (0, 0)) :: rowP 5 1 (.slice da s.data.length dc) s.data.length (u8s s.data) :: rowP 81 2 wv s.wanted.length (Fil.rcells s.wanted) :: l) z → bodyPost _ _ _ _ _ z from ?_) _ (zeroAgain hl3 hlz HS.out _)
      intro z hz
      have e0 : z.cell? ⟨w.heap.size, 0, none⟩ = some (.int .i64 0) := (Sts.boxCell hz 0 _ rfl).1
      have e1 : z.cell? ⟨w.heap.size, 1, none⟩ = some (.int .i64 0) := (Sts.boxCell hz 1 _ rfl).1
      have e2 : z.cell? ⟨w.heap.size, 2, none⟩ = some (.int .i64 0) := (Sts.boxCell hz 2 _ rfl).1
      have e3 : z.cell? ⟨w.heap.size, 3, none⟩ = some (.int .i64 0) := (Sts.boxCell hz 3 _ rfl).1
      have e4 : z.cell? ⟨w.heap.size, 4, none⟩ = some (.string ⟨#[]⟩) := (Sts.boxCell hz 4 _ rfl).1
      have e5 : z.cell? ⟨w.heap.size, 5, none⟩ = some (.int .i64 0) := (Sts.boxCell hz 5 _ rfl).1
      have e6 : z.cell? ⟨w.heap.size, 6, none⟩ = some (.int .i64 0) := (Sts.boxCell hz 6 _ rfl).1
      have e7 : z.cell? ⟨w.heap.size, 7, none⟩ = some (.slice none 0 0) := (Sts.boxCell hz 7 _ rfl).1
      have e8 : z.cell? ⟨w.heap.size, 8, none⟩ = some (.int .u32 0) := (Sts.boxCell hz 8 _ rfl).1
      have e9 : z.cell? ⟨w.heap.size, 9, none⟩ = some (.int .i64 0) := (Sts.boxCell hz 9 _ rfl).1
      have e10 : z.cell? ⟨w.heap.size, 10, none⟩ = some (.slice none 0 0) := (Sts.boxCell hz 10 _ rfl).1
      have HF := hid hz
      clear hz
      refine bodyPost_ret (v := .tuple #[.agg #[.int .i64 0, .int .i64 0, .int .i64 0, .int .i64 0, .string ⟨#[]⟩, .int .i64 0, .int .i64 0, .slice none 0 0, .int .u32 0, .int .i64 0, .slice none 0 0], .bool false]) ?_ rfl ⟨rfl, Sts.shutSrc HF.out.tail⟩
      simp [results, Try.results66, go_sem, e0, e1, e2, e3, e4, e5, e6, e7, e8, e9, e10]
    | false =>
      rw [ha] at k16 hq2
      have hd : decide (s.now < s.timer + s.timeout) = true := by simpa using hq2
      clear hq2
      go_enter Try.func66, Try.ntmps66
      go_wp2_with fail
      go_quiet (fail)
      go_wp2_with fail
      clear k6 k7 k8 k9 k10 k16 k17 k18
      refine (show ∀ z, Sts W (blkP w.heap.size (.cells zeroPdu 45 (0, 0)) :: blkP q (.cells (s.cells (.slice da s.data.length dc) wv) 64 (0, 0)) :: rowP 5 1 (.slice da s.data.length dc) s.data.length (u8s s.data) :: rowP 81 2 wv s.wanted.length (Fil.rcells s.wanted) :: l) z → bodyPost _ _ _ _ _ z from ?_) _ (zeroAgain hl3 hlz HS.out _)
      intro z hz
      have e0 : z.cell? ⟨w.heap.size, 0, none⟩ = some (.int .i64 0) := (Sts.boxCell hz 0 _ rfl).1
      have e1 : z.cell? ⟨w.heap.size, 1, none⟩ = some (.int .i64 0) := (Sts.boxCell hz 1 _ rfl).1
      have e2 : z.cell? ⟨w.heap.size, 2, none⟩ = some (.int .i64 0) := (Sts.boxCell hz 2 _ rfl).1
      have e3 : z.cell? ⟨w.heap.size, 3, none⟩ = some (.int .i64 0) := (Sts.boxCell hz 3 _ rfl).1
      have e4 : z.cell? ⟨w.heap.size, 4, none⟩ = some (.string ⟨#[]⟩) := (Sts.boxCell hz 4 _ rfl).1
      have e5 : z.cell? ⟨w.heap.size, 5, none⟩ = some (.int .i64 0) := (Sts.boxCell hz 5 _ rfl).1
      have e6 : z.cell? ⟨w.heap.size, 6, none⟩ = some (.int .i64 0) := (Sts.boxCell hz 6 _ rfl).1
      have e7 : z.cell? ⟨w.heap.size, 7, none⟩ = some (.slice none 0 0) := (Sts.boxCell hz 7 _ rfl).1
      have e8 : z.cell? ⟨w.heap.size, 8, none⟩ = some (.int .u32 0) := (Sts.boxCell hz 8 _ rfl).1
      have e9 : z.cell? ⟨w.heap.size, 9, none⟩ = some (.int .i64 0) := (Sts.boxCell hz 9 _ rfl).1
      have e10 : z.cell? ⟨w.heap.size, 10, none⟩ = some (.slice none 0 0) := (Sts.boxCell hz 10 _ rfl).1
      have HF := hid hz
      clear hz
      refine bodyPost_ret (v := .tuple #[.agg #[.int .i64 0, .int .i64 0, .int .i64 0, .int .i64 0, .string ⟨#[]⟩, .int .i64 0, .int .i64 0, .slice none 0 0, .int .u32 0, .int .i64 0, .slice none 0 0], .bool false]) ?_ rfl ⟨rfl, Sts.shutSrc HF.out.tail⟩
      simp [results, Try.results66, go_sem, e0, e1, e2, e3, e4, e5, e6, e7, e8, e9, e10]
set_option maxRecDepth 100000 in
set_option maxHeartbeats 2000000 in
theorem cRepFail (hT : 0 ≤ s.timer + s.timeout ∧ s.timer + s.timeout < 4611686018427387904) (hp : s.phase = 1) (ha : s.acked = false) (hd : decide (s.now < s.timer + s.timeout) = false) (hr : decide (s.retries ≤ s.tries) = true) : Calls Try.prog 66 #[.pointer (some ⟨q, 0, none⟩)] w fun e w' => e = .returned (.tuple #[.agg zeroPdu, .bool false]) ∧ Sts W (srcP q { s with phase := 5, code := 10 } :: l) w' := by
  obtain ⟨dv, wv, h⟩ := Sts.openSrc hs
  obtain ⟨da, dc, hde⟩ := (Rd.of_own (Sts.rowOwn (h.swap)) (u8s_len _)).eq
  rw [u8s_len] at hde
  subst hde
  have hl3 : ∀ B ∈ blkP q (.cells (s.cells (.slice da s.data.length dc) wv) 64 (0, 0)) :: rowP 5 1 (.slice da s.data.length dc) s.data.length (u8s s.data) :: rowP 81 2 wv s.wanted.length (Fil.rcells s.wanted) :: l, Stable B := stabC (blkP_stable _ _) (stabC (rowP_stable _ _ _ _ _) (stabC (rowP_stable _ _ _ _ _) hl))
  have hz : Sts W (blkP w.heap.size (.cells zeroPdu 45 (0, 0)) :: blkP q (.cells (s.cells (.slice da s.data.length dc) wv) 64 (0, 0)) :: rowP 5 1 (.slice da s.data.length dc) s.data.length (u8s s.data) :: rowP 81 2 wv s.wanted.length (Fil.rcells s.wanted) :: l) (w.alloc (.cells #[.int .i64 0, .int .i64 0, .int .i64 0, .int .i64 0, .string ⟨#[]⟩, .int .i64 0, .int .i64 0, .slice none 0 0, .int .u32 0, .int .i64 0, .slice none 0 0] 45)) := h.alloc hl3 (.cells zeroPdu 45 (0, 0))
  have hl4 : ∀ B ∈ blkP w.heap.size (.cells zeroPdu 45 (0, 0)) :: rowP 5 1 (.slice da s.data.length dc) s.data.length (u8s s.data) :: rowP 81 2 wv s.wanted.length (Fil.rcells s.wanted) :: l, Stable B := stabC (blkP_stable _ _) (stabC (rowP_stable _ _ _ _ _) (stabC (rowP_stable _ _ _ _ _) hl))
  have hlz : ∀ B ∈ blkP w.heap.size (.cells zeroPdu 45 (0, 0)) :: blkP q (.cells (s.cells (.slice da s.data.length dc) wv) 64 (0, 0)) :: rowP 5 1 (.slice da s.data.length dc) s.data.length (u8s s.data) :: rowP 81 2 wv s.wanted.length (Fil.rcells s.wanted) :: l, Stable B := stabC (blkP_stable _ _) hl3
  have hl6 : ∀ B ∈ blkP w.heap.size (.cells zeroPdu 45 (0, 0)) :: l, Stable B := stabC (blkP_stable _ _) hl
  have hC := Sts.srcC hz.swap
  have k6 := hC.k6
  have k7 := hC.k7
  have k8 := hC.k8
  have k9 := hC.k9
  have k10 := hC.k10
  have k16 := hC.k16
  have k17 := hC.k17
  have k18 := hC.k18
  have hwr : IntKind.i64.wrap (s.timer + s.timeout) = s.timer + s.timeout := by rw [IntKind.wrap_i64]; omega
  have hl3' : ∀ B ∈ blkP q (.cells (({ s with phase := 5, code := 10 } : Fil.Src).cells (.slice da s.data.length dc) wv) 64 (0, 0)) :: rowP 5 1 (.slice da s.data.length dc) s.data.length (u8s s.data) :: rowP 81 2 wv s.wanted.length (Fil.rcells s.wanted) :: l, Stable B := stabC (blkP_stable _ _) (stabC (rowP_stable _ _ _ _ _) (stabC (rowP_stable _ _ _ _ _) hl))
  rw [hp] at k10
  rw [ha] at k16
  have HS := hid hz
  clear hC hz h hs hT hp ha
  go_enter Try.func66, Try.ntmps66
  go_wp2_with fail
  go_quiet (fail)
  go_wp2_with fail
  go_quiet (fail)
  refine (show ∀ z, Sts W (blkP w.heap.size (.cells zeroPdu 45 (0, 0)) :: blkP q (.cells (s.cells (.slice da s.data.length dc) wv) 64 (0, 0)) :: rowP 5 1 (.slice da s.data.length dc) s.data.length (u8s s.data) :: rowP 81 2 wv s.wanted.length (Fil.rcells s.wanted) :: l) z → Exit.then _ _ _ _ z from ?_) _ ((HS.out.quiet hlz (below_drewN (Below.refl _ _) _)).quiet hlz (below_drewN (Below.refl _ _) _))
  clear HS hwr k6 k7 k8 k9 k10 k16 k17 k18
  intro z hz
  have hC := Sts.srcC hz.swap
  have k10 := hC.k10
  have fr10 := hC.fr 10
  have st1 := Sts.store hl4 hz.swap (j := 10) (.int .i64 5)
  have hB1 := Sts.srcC (dv := .slice da s.data.length dc) (wv := wv) (s := { s with phase := 5 }) st1
  have b20 := hB1.k20
  have f20 := hB1.fr 20
  dsimp only at b20
  have st2 := Sts.store hl4 st1 (j := 20) (.int .i64 10)
  have HS := hid st2.swap
  have fz : ∀ j, ((z.setCell ⟨q, 10, none⟩ (.int .i64 5)).setCell ⟨q, 20, none⟩ (.int .i64 10)).frozen? ⟨w.heap.size, j, none⟩ = false := fun j => by obtain ⟨F, hF⟩ := HS.out.head; exact free_blk hF.1
  have z0 := (Sts.boxCell HS.out 0 _ rfl).1
  have z1 := (Sts.boxCell HS.out 1 _ rfl).1
  have z2 := (Sts.boxCell HS.out 2 _ rfl).1
  have z3 := (Sts.boxCell HS.out 3 _ rfl).1
  have z4 := (Sts.boxCell HS.out 4 _ rfl).1
  have z5 := (Sts.boxCell HS.out 5 _ rfl).1
  have z6 := (Sts.boxCell HS.out 6 _ rfl).1
  have z7 := (Sts.boxCell HS.out 7 _ rfl).1
  have z8 := (Sts.boxCell HS.out 8 _ rfl).1
  have z9 := (Sts.boxCell HS.out 9 _ rfl).1
  have z10 := (Sts.boxCell HS.out 10 _ rfl).1
  clear hC st1 hB1 st2 hz
  go_wp2_with fail
  clear fz k10 fr10 b20 f20 z0 z1 z2 z3 z4 z5 z6 z7 z8 z9 z10
  refine (show ∀ z, Sts W (blkP w.heap.size (.cells zeroPdu 45 (0, 0)) :: blkP q (.cells (({ s with phase := 5, code := 10 } : Fil.Src).cells (.slice da s.data.length dc) wv) 64 (0, 0)) :: rowP 5 1 (.slice da s.data.length dc) s.data.length (u8s s.data) :: rowP 81 2 wv s.wanted.length (Fil.rcells s.wanted) :: l) z → bodyPost _ _ _ _ _ z from ?_) _ (zeroAgain0 hl3' HS.out)
  clear HS
  intro z hz
  have e0 : z.cell? ⟨w.heap.size, 0, none⟩ = some (.int .i64 0) := (Sts.boxCell hz 0 _ rfl).1
  have e1 : z.cell? ⟨w.heap.size, 1, none⟩ = some (.int .i64 0) := (Sts.boxCell hz 1 _ rfl).1
  have e2 : z.cell? ⟨w.heap.size, 2, none⟩ = some (.int .i64 0) := (Sts.boxCell hz 2 _ rfl).1
  have e3 : z.cell? ⟨w.heap.size, 3, none⟩ = some (.int .i64 0) := (Sts.boxCell hz 3 _ rfl).1
  have e4 : z.cell? ⟨w.heap.size, 4, none⟩ = some (.string ⟨#[]⟩) := (Sts.boxCell hz 4 _ rfl).1
  have e5 : z.cell? ⟨w.heap.size, 5, none⟩ = some (.int .i64 0) := (Sts.boxCell hz 5 _ rfl).1
  have e6 : z.cell? ⟨w.heap.size, 6, none⟩ = some (.int .i64 0) := (Sts.boxCell hz 6 _ rfl).1
  have e7 : z.cell? ⟨w.heap.size, 7, none⟩ = some (.slice none 0 0) := (Sts.boxCell hz 7 _ rfl).1
  have e8 : z.cell? ⟨w.heap.size, 8, none⟩ = some (.int .u32 0) := (Sts.boxCell hz 8 _ rfl).1
  have e9 : z.cell? ⟨w.heap.size, 9, none⟩ = some (.int .i64 0) := (Sts.boxCell hz 9 _ rfl).1
  have e10 : z.cell? ⟨w.heap.size, 10, none⟩ = some (.slice none 0 0) := (Sts.boxCell hz 10 _ rfl).1
  have HF := hid hz
  clear hz
  refine bodyPost_ret (v := .tuple #[.agg #[.int .i64 0, .int .i64 0, .int .i64 0, .int .i64 0, .string ⟨#[]⟩, .int .i64 0, .int .i64 0, .slice none 0 0, .int .u32 0, .int .i64 0, .slice none 0 0], .bool false]) ?_ rfl ⟨rfl, Sts.shutSrc (s := { s with phase := 5, code := 10 }) HF.out.tail⟩
  simp [results, Try.results66, go_sem, e0, e1, e2, e3, e4, e5, e6, e7, e8, e9, e10]
set_option maxRecDepth 100000 in
set_option maxHeartbeats 2000000 in
theorem cRepEof (hn : s.data.length < 100000000) (hb : ∀ x ∈ s.data, x < 256) (hT : 0 ≤ s.timer + s.timeout ∧ s.timer + s.timeout < 4611686018427387904) (hp : s.phase = 1) (ha : s.acked = false) (hd : decide (s.now < s.timer + s.timeout) = false) (hr : decide (s.retries ≤ s.tries) = false) (ht : 0 ≤ s.tries ∧ s.tries < 1000000) : Calls Try.prog 66 #[.pointer (some ⟨q, 0, none⟩)] w fun e w' => e = .returned (.tuple #[.agg (Fil.eofP s 0).cells, .bool true]) ∧ Sts W (srcP q { s with tries := s.tries + 1, timer := s.now } :: l) w' := by
  obtain ⟨dv, wv, h⟩ := Sts.openSrc hs
  obtain ⟨da, dc, hde⟩ := (Rd.of_own (Sts.rowOwn (h.swap)) (u8s_len _)).eq
  rw [u8s_len] at hde
  subst hde
  have hl3 : ∀ B ∈ blkP q (.cells (s.cells (.slice da s.data.length dc) wv) 64 (0, 0)) :: rowP 5 1 (.slice da s.data.length dc) s.data.length (u8s s.data) :: rowP 81 2 wv s.wanted.length (Fil.rcells s.wanted) :: l, Stable B := stabC (blkP_stable _ _) (stabC (rowP_stable _ _ _ _ _) (stabC (rowP_stable _ _ _ _ _) hl))
  have hz : Sts W (blkP w.heap.size (.cells zeroPdu 45 (0, 0)) :: blkP q (.cells (s.cells (.slice da s.data.length dc) wv) 64 (0, 0)) :: rowP 5 1 (.slice da s.data.length dc) s.data.length (u8s s.data) :: rowP 81 2 wv s.wanted.length (Fil.rcells s.wanted) :: l) (w.alloc (.cells #[.int .i64 0, .int .i64 0, .int .i64 0, .int .i64 0, .string ⟨#[]⟩, .int .i64 0, .int .i64 0, .slice none 0 0, .int .u32 0, .int .i64 0, .slice none 0 0] 45)) := h.alloc hl3 (.cells zeroPdu 45 (0, 0))
  have hl4 : ∀ B ∈ blkP w.heap.size (.cells zeroPdu 45 (0, 0)) :: rowP 5 1 (.slice da s.data.length dc) s.data.length (u8s s.data) :: rowP 81 2 wv s.wanted.length (Fil.rcells s.wanted) :: l, Stable B := stabC (blkP_stable _ _) (stabC (rowP_stable _ _ _ _ _) (stabC (rowP_stable _ _ _ _ _) hl))
  have hlz : ∀ B ∈ blkP w.heap.size (.cells zeroPdu 45 (0, 0)) :: blkP q (.cells (s.cells (.slice da s.data.length dc) wv) 64 (0, 0)) :: rowP 5 1 (.slice da s.data.length dc) s.data.length (u8s s.data) :: rowP 81 2 wv s.wanted.length (Fil.rcells s.wanted) :: l, Stable B := stabC (blkP_stable _ _) hl3
  have hl6 : ∀ B ∈ blkP w.heap.size (.cells zeroPdu 45 (0, 0)) :: l, Stable B := stabC (blkP_stable _ _) hl
  have hC := Sts.srcC hz.swap
  have k6 := hC.k6
  have k7 := hC.k7
  have k8 := hC.k8
  have k9 := hC.k9
  have k10 := hC.k10
  have k16 := hC.k16
  have k17 := hC.k17
  have k18 := hC.k18
  have hwr : IntKind.i64.wrap (s.timer + s.timeout) = s.timer + s.timeout := by rw [IntKind.wrap_i64]; omega
  have hwt : IntKind.i64.wrap (s.tries + 1) = s.tries + 1 := by rw [IntKind.wrap_i64]; omega
  rw [hp] at k10
  rw [ha] at k16
  have HS := hid hz
  clear hC hz h hs hT hp ha ht
  go_enter Try.func66, Try.ntmps66
  go_wp2_with fail
  go_quiet (fail)
  go_wp2_with fail
  go_quiet (fail)
  refine (show ∀ z, Sts W (blkP w.heap.size (.cells zeroPdu 45 (0, 0)) :: blkP q (.cells (s.cells (.slice da s.data.length dc) wv) 64 (0, 0)) :: rowP 5 1 (.slice da s.data.length dc) s.data.length (u8s s.data) :: rowP 81 2 wv s.wanted.length (Fil.rcells s.wanted) :: l) z → Exit.then _ _ _ _ z from ?_) _ ((HS.out.quiet hlz (below_drewN (Below.refl _ _) _)).quiet hlz (below_drewN (Below.refl _ _) _))
  clear HS hwr k6 k7 k8 k9 k10 k16 k17 k18
  intro z hz
  have hC := Sts.srcC hz.swap
  have k18 := hC.k18
  have fr18 := hC.fr 18
  have st1 := Sts.store hl4 hz.swap (j := 18) (.int .i64 (s.tries + 1))
  have hB1 := Sts.srcC (dv := .slice da s.data.length dc) (wv := wv) (s := { s with tries := s.tries + 1 }) st1
  have b17 := hB1.k17
  have b9 := hB1.k9
  have f17 := hB1.fr 17
  dsimp only at b17 b9
  have st2 := Sts.store hl4 st1 (j := 17) (.int .i64 s.now)
  have hs1 := Sts.shutSrc (s := { s with tries := s.tries + 1, timer := s.now }) (dv := .slice da s.data.length dc) (wv := wv) ((st2.swap).perm ((List.perm_middle (l₁ := [_, _, _]) (l₂ := l)).symm))
  have HM := hid (cEof hl6 q { s with tries := s.tries + 1, timer := s.now } hs1 hn hb 0)
  clear hs1 hC st1 hB1 st2 hz hb
  go_wp2_with (first | (go_at_call 62; refine HM.out.mono ?_; rintro e w2 ⟨he, hw2⟩; obtain rfl : e = .returned (.agg #[.int .i64 3, .int .i64 s.src, .int .i64 s.num, .int .i64 s.cls, .string ⟨#[]⟩, .int .i64 s.data.length, .int .i64 0, .slice none 0 0, .int .u32 (Fil.sumV s.data : Nat), .int .i64 0, .slice none 0 0]) := he; have HS := hid (hw2.swap); have fz : ∀ j, w2.frozen? ⟨w.heap.size, j, none⟩ = false := fun j => (by obtain ⟨F, hF⟩ := HS.out.head; exact free_blk hF.1); have z0 := (Sts.boxCell HS.out 0 _ rfl).1; have z1 := (Sts.boxCell HS.out 1 _ rfl).1; have z2 := (Sts.boxCell HS.out 2 _ rfl).1; have z3 := (Sts.boxCell HS.out 3 _ rfl).1; have z4 := (Sts.boxCell HS.out 4 _ rfl).1; have z5 := (Sts.boxCell HS.out 5 _ rfl).1; have z6 := (Sts.boxCell HS.out 6 _ rfl).1; have z7 := (Sts.boxCell HS.out 7 _ rfl).1; have z8 := (Sts.boxCell HS.out 8 _ rfl).1; have z9 := (Sts.boxCell HS.out 9 _ rfl).1; have z10 := (Sts.boxCell HS.out 10 _ rfl).1; clear hw2 HM))
  have hf := Sts.storeAll (stabC (srcP_stable _ _) hl) (Fil.eofP s 0).cells.toList 0 _ _ HS.out
  rw [show putAll 0 (Fil.eofP s 0).cells.toList zeroPdu = (Fil.eofP s 0).cells by kernel_rfl] at hf
  clear HS fz z0 z1 z2 z3 z4 z5 z6 z7 z8 z9 z10
  refine (show ∀ z, Sts W (blkP w.heap.size (.cells (Fil.eofP s 0).cells 45 (0, 0)) :: srcP q { s with tries := s.tries + 1, timer := s.now } :: l) z → bodyPost _ _ _ _ _ z from ?_) _ hf
  clear hf
  intro z hz
  have e0 : z.cell? ⟨w.heap.size, 0, none⟩ = some (.int .i64 3) := (Sts.boxCell hz 0 _ rfl).1
  have e1 : z.cell? ⟨w.heap.size, 1, none⟩ = some (.int .i64 s.src) := (Sts.boxCell hz 1 _ rfl).1
  have e2 : z.cell? ⟨w.heap.size, 2, none⟩ = some (.int .i64 s.num) := (Sts.boxCell hz 2 _ rfl).1
  have e3 : z.cell? ⟨w.heap.size, 3, none⟩ = some (.int .i64 s.cls) := (Sts.boxCell hz 3 _ rfl).1
  have e4 : z.cell? ⟨w.heap.size, 4, none⟩ = some (.string ⟨#[]⟩) := (Sts.boxCell hz 4 _ rfl).1
  have e5 : z.cell? ⟨w.heap.size, 5, none⟩ = some (.int .i64 s.data.length) := (Sts.boxCell hz 5 _ rfl).1
  have e6 : z.cell? ⟨w.heap.size, 6, none⟩ = some (.int .i64 0) := (Sts.boxCell hz 6 _ rfl).1
  have e7 : z.cell? ⟨w.heap.size, 7, none⟩ = some (.slice none 0 0) := (Sts.boxCell hz 7 _ rfl).1
  have e8 : z.cell? ⟨w.heap.size, 8, none⟩ = some (.int .u32 (Fil.sumV s.data : Nat)) := (Sts.boxCell hz 8 _ rfl).1
  have e9 : z.cell? ⟨w.heap.size, 9, none⟩ = some (.int .i64 0) := (Sts.boxCell hz 9 _ rfl).1
  have e10 : z.cell? ⟨w.heap.size, 10, none⟩ = some (.slice none 0 0) := (Sts.boxCell hz 10 _ rfl).1
  have HF := hid hz
  clear hz
  refine bodyPost_ret (v := .tuple #[.agg #[.int .i64 3, .int .i64 s.src, .int .i64 s.num, .int .i64 s.cls, .string ⟨#[]⟩, .int .i64 s.data.length, .int .i64 0, .slice none 0 0, .int .u32 (Fil.sumV s.data : Nat), .int .i64 0, .slice none 0 0], .bool true]) ?_ rfl ⟨rfl, HF.out.tail⟩
  simp [results, Try.results66, go_sem, e0, e1, e2, e3, e4, e5, e6, e7, e8, e9, e10]
end
end Go.Proofs.Ytfjadhkhmhnccaa
