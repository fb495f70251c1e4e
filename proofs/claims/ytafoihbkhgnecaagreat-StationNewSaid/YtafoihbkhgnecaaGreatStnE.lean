/- The ground segment's file entity; whether a configuration is valid. -/
import Derived.Test.YtafoihbkhgnecaaGreatStnC
import Derived.BigQuiet
set_option linter.unusedVariables false
set_option linter.unusedSimpArgs false
namespace Go.Proofs.YtafoihbkhgnecaaGreat
open Go.RowKit Go.Proofs.Num
/-- A file entity without transactions: its blocks. -/
def couL (self chunk to re : Int) (c m1 m2 m3 q m : Nat) : List HProp :=
  [blkP c (.cells #[.bool true, .int .i64 self, .pointer (some ⟨q, 0, none⟩), .int .i64 chunk, .int .i64 to, .int .i64 re, .int .i64 0, .int .i64 1, .map (some m1), .map (some m2), .map (some m3), .slice none 0 0, .slice none 0 0, .bool false, .pointer none] 153 (0, 0)), blkP m3 (.map #[] 0), blkP m2 (.map #[] 0), blkP m1 (.map #[] 0), blkP q (.cells #[.int .i64 256, .int .i64 4194304, .map (some m)] 185 (0, 0)), blkP m (.map #[] 0)]
section
variable {W w : World} {l : List HProp} (hl : ∀ B ∈ l, Stable B)
include hl
set_option maxRecDepth 100000 in
set_option maxHeartbeats 2000000 in
theorem cEntity (chunk to re : Int) (hs : Sts W l w) (h4 : 1 ≤ chunk ∧ chunk ≤ 512) (h5 : 1 ≤ to ∧ to ≤ 1048576) (h6 : 0 ≤ re ∧ re ≤ 255) :
    Calls Tryz.prog 13 #[.agg #[.int .i64 chunk, .int .i64 to, .int .i64 re]] w fun e w' => ∃ c m1 m2 m3 q m, e = .returned (.tuple #[.pointer (some ⟨c, 0, none⟩), .int .i64 0]) ∧ Sts W (couL 1 chunk to re c m1 m2 m3 q m ++ l) w' := by
  have HS := hid (hs.alloc hl (.cells #[.int .i64 chunk, .int .i64 to, .int .i64 re] 23))
  have HL := hid (stabC (blkP_stable w.heap.size (.cells #[.int .i64 chunk, .int .i64 to, .int .i64 re] 23 (0, 0))) hl)
  clear hs
  go_enter Tryz.func13, Tryz.ntmps13
  go_wp2_with fail
  refine wp_region_ord (.pure 1 (.eff 0 (.eff 2 (.pure 3 (.pure 4 (.pure 5 (.pure 6 .nil))))))) (fun y => (loadVar 23 ⟨w.heap.size, 0, none⟩).run Tryz.prog y = .ok (.agg #[.int .i64 chunk, .int .i64 to, .int .i64 re]) y) (fun y => Sts W (blkP w.heap.size (.cells #[.int .i64 chunk, .int .i64 to, .int .i64 re] 23 (0, 0)) :: l) y) (by kernel_rfl) (by kernel_rfl) (HS.out.drew HL.out) (fun y hy => ldCfg hy) ?_
  apply ord_pure (ho := rfl)
  · go_simp
  · exact fun x hx => exec_ldS (.tmp 1) 23 rfl rfl hx
  apply ord_norm
  · go_simp; rfl
  apply ord_eff (ho := rfl)
  · go_simp
  intro y hy
  refine eff_call (f := 36) (by go_simp) (cFilNew HL.out hy 256 4194304 (by omega) (by omega)) ?_
  rintro e w3 ⟨q, m, rfl, h3⟩
  refine ⟨_, rfl, (fun y => (loadVar 23 ⟨w.heap.size, 0, none⟩).run Tryz.prog y = .ok (.agg #[.int .i64 chunk, .int .i64 to, .int .i64 re]) y), (fun y => Sts W (blkP q (.cells #[.int .i64 256, .int .i64 4194304, .map (some m)] 185 (0, 0)) :: blkP m (.map #[] 0) :: blkP w.heap.size (.cells #[.int .i64 chunk, .int .i64 to, .int .i64 re] 23 (0, 0)) :: l) y), h3, (fun y hy => ldCfg hy.tail.tail), (fun _ h => h), ?_⟩
  clear h3 hy y
  apply ord_norm
  · go_simp; rfl
  apply ord_eff (ho := rfl)
  · go_simp
  intro y hy
  refine eff_call (f := 35) (by go_simp) (cCouNew HL.out 1 chunk to re q m 256 4194304 hy (by omega) (by omega) (by omega) h4 h5 h6) ?_
  rintro e w4 ⟨c, m1, m2, m3, rfl, h3⟩
  refine ⟨_, rfl, (fun y => (loadVar 23 ⟨w.heap.size, 0, none⟩).run Tryz.prog y = .ok (.agg #[.int .i64 chunk, .int .i64 to, .int .i64 re]) y), (fun y => Sts W (couL 1 chunk to re c m1 m2 m3 q m ++ (blkP w.heap.size (.cells #[.int .i64 chunk, .int .i64 to, .int .i64 re] 23 (0, 0)) :: l)) y), h3, (fun y hy => ldCfg (hy.perm List.perm_middle)), (fun _ h => h), ?_⟩
  clear h3 hy y
  apply ord_norm
  · go_simp; rfl
  iterate 4
    (apply ord_pure (ho := rfl)
     · go_simp
     · intro x hx; go_simp; rfl
     apply ord_norm
     · go_simp; rfl)
  refine ord_nil fun z hz => ?_
  have HZ := hid ((hz.perm List.perm_middle).tail)
  clear hz
  go_wp2_with fail
  go_ret2
  exact ⟨c, m1, m2, m3, q, m, rfl, HZ.out⟩
end
end Go.Proofs.YtafoihbkhgnecaaGreat
