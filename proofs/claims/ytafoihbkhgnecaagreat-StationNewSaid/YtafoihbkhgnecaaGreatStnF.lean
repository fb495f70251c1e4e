/- A file store without files. -/
import Derived.Test.YtafoihbkhgnecaaGreatStnA
import Derived.BigQuiet
import Derived.Laws.IdiomRangeMap
import Derived.Test.YtafoihbkhgnecaaGreatOrdR
set_option linter.unusedVariables false
set_option linter.unusedSimpArgs false
namespace Go.Proofs.YtafoihbkhgnecaaGreat
open Go.RowKit Go.Proofs.Num
theorem run_next_empty {P : Program} (w : World) (ty : TypeId) (bm : Nat) (hb : w.heap[bm]? = some (.map #[] 0)) :
    (Instr.next (.pointer (some ⟨w.heap.size, 0, none⟩)) false ty).run P (w.alloc (.mapIter (some bm) 0 #[] 0)) = .ok (.tuple #[.bool false]) (w.alloc (.mapIter (some bm) 0 #[] 0)) := by
  rcases run_next_map (P := P) w ty bm 0 0 #[] #[] 0 hb (by simp) (Nat.le_refl _) with ⟨-, h⟩ | ⟨e, he, -⟩
  · exact h
  · simp [leftOf] at he
section
variable {W w : World} {l : List HProp} (hl : ∀ B ∈ l, Stable B)
include hl
set_option maxRecDepth 100000 in
theorem cFilNew (hs : Sts W l w) (a b : Int) (h1 : 0 ≤ a ∧ a ≤ 256) (h2 : 0 ≤ b ∧ b ≤ 2147483648) : Calls Tryz.prog 36 #[.int .i64 a, .int .i64 b] w fun e w' => ∃ q m, e = .returned (.pointer (some ⟨q, 0, none⟩)) ∧ Sts W (blkP q (.cells #[.int .i64 a, .int .i64 b, .map (some m)] 185 (0, 0)) :: blkP m (.map #[] 0) :: l) w' := by
  have H0 := hid (hs.alloc hl (.map #[] 0))
  have H1 := hid (H0.out.alloc (stabC (blkP_stable _ _) hl) (.cells #[.int .i64 a, .int .i64 b, .map (some w.heap.size)] 185))
  have n1 : max a 0 = a := by omega
  have n2 : max b 0 = b := by omega
  have m1 : min a 256 = a := by omega
  have m2 : min b 2147483648 = b := by omega
  have hmm := @run_makeMap Tryz.prog
  clear hs h1 h2
  go_enter Tryz.func36, Tryz.ntmps36
  go_wp2_with fail
  go_ret
  exact ⟨_, _, rfl, by simpa using H1.out⟩
omit hl in
set_option maxRecDepth 100000 in
theorem cFilUsable (q m : Nat) (a b : Int) (hs : Sts W (blkP q (.cells #[.int .i64 a, .int .i64 b, .map (some m)] 185 (0, 0)) :: l) w) : Calls Tryz.prog 138 #[.pointer (some ⟨q, 0, none⟩)] w fun e w' => e = .returned (.bool true) ∧ w = w' := by
  have k2 := (Sts.boxCell hs 2 _ rfl).1
  clear hs
  have qm : ∀ w, (binOp .neq 183 (.map (some m)) (.map none)).run Tryz.prog w = .ok (.bool true) w := fun _ => by first | rfl | kernel_rfl
  go_enter Tryz.func138, Tryz.ntmps138
  go_wp2_with fail
  go_ret
  exact ⟨rfl, rfl⟩
set_option maxRecDepth 100000 in
set_option maxHeartbeats 2000000 in
theorem cFilClone (q m : Nat) (a b : Int) (hs : Sts W (blkP q (.cells #[.int .i64 a, .int .i64 b, .map (some m)] 185 (0, 0)) :: blkP m (.map #[] 0) :: l) w) (h1 : 0 ≤ a ∧ a ≤ 256) (h2 : 0 ≤ b ∧ b ≤ 2147483648) : Calls Tryz.prog 92 #[.pointer (some ⟨q, 0, none⟩)] w fun e w' => ∃ q', e = .returned (.pointer (some ⟨q', 0, none⟩)) ∧ Sts W (blkP q (.cells #[.int .i64 a, .int .i64 b, .map (some m)] 185 (0, 0)) :: blkP m (.map #[] 0) :: l) w' := by
  have HS := hid hs
  have HL := hid (stabC (blkP_stable q (.cells #[.int .i64 a, .int .i64 b, .map (some m)] 185 (0, 0))) (stabC (blkP_stable m (.map #[] 0)) hl))
  have k0 := (Sts.boxCell hs 0 _ rfl).1
  have k1 := (Sts.boxCell hs 1 _ rfl).1
  have k2 := (Sts.boxCell hs 2 _ rfl).1
  clear hs hl
  go_enter Tryz.func92, Tryz.ntmps92
  go_wp2_with (first | (go_at_call 138; refine (cFilUsable q m a b HS.out).mono ?_; rintro e w2 ⟨rfl, rfl⟩))
  refine wp_region_ord (.pure 0 (.pure 1 (.pure 2 (.pure 3 (.pure 4 (.pure 5 (.pure 6 (.pure 7 (.eff 8 (.pure 9 .nil)))))))))) (fun y => y.cell? ⟨q, 0, none⟩ = some (.int .i64 a) ∧ y.cell? ⟨q, 1, none⟩ = some (.int .i64 b)) (fun y => Sts W (blkP q (.cells #[.int .i64 a, .int .i64 b, .map (some m)] 185 (0, 0)) :: blkP m (.map #[] 0) :: l) y) (by kernel_rfl) (by kernel_rfl) (HS.out.drew HL.out) (fun y hy => ⟨(Sts.boxCell hy 0 _ rfl).1, (Sts.boxCell hy 1 _ rfl).1⟩) ?_
  iterate 8
    (apply ord_pure (ho := rfl)
     · go_simp
     · intro x hx; obtain ⟨k0, k1⟩ := hx; go_simp; rfl
     apply ord_norm
     · go_simp; rfl)
  apply ord_eff (ho := rfl)
  · go_simp
  intro y hy
  refine eff_call (f := 36) (by go_simp) (cFilNew HL.out hy a b h1 h2) ?_
  rintro e w3 ⟨q2, m2, rfl, h3⟩
  refine ⟨_, rfl, (fun y => y.cell? ⟨q, 0, none⟩ = some (.int .i64 a) ∧ y.cell? ⟨q, 1, none⟩ = some (.int .i64 b)), (fun y => Sts W (blkP q2 (.cells #[.int .i64 a, .int .i64 b, .map (some m2)] 185 (0, 0)) :: blkP m2 (.map #[] 0) :: blkP q (.cells #[.int .i64 a, .int .i64 b, .map (some m)] 185 (0, 0)) :: blkP m (.map #[] 0) :: l) y), h3, (fun y hy => ⟨(Sts.boxCell hy.tail.tail 0 _ rfl).1, (Sts.boxCell hy.tail.tail 1 _ rfl).1⟩), (fun _ h => h), ?_⟩
  clear h3 hy y
  apply ord_norm
  · go_simp; rfl
  iterate 1
    (apply ord_pure (ho := rfl)
     · go_simp
     · intro x hx; go_simp; rfl
     apply ord_norm
     · go_simp; rfl)
  refine ord_nil fun z hz => ?_
  have HZ := hid hz.tail.tail
  have k2 : z.cell? ⟨q, 2, none⟩ = some (.map (some m)) := (Sts.boxCell HZ.out 2 _ rfl).1
  have hm : z.heap[m]? = some (.map #[] 0) := by obtain ⟨F, hF⟩ := HZ.out.tail.head; exact hF.1
  clear hz
  have hr := run_range_map (P := Tryz.prog) z 183 9 59 m #[] 0 Tryz.underlying183 hm
  have hn := fun ty => run_next_empty (P := Tryz.prog) z ty m hm
  have HE := hid (Sts.box HL.out HZ.out (.mapIter (some m) 0 #[] 0))
  clear hm
  go_wp2_with fail
  go_loopw [4] (fun _ wr => wr = z.alloc (.mapIter (some m) 0 #[] 0)) (fun _ _ => 0)
  case atStart => rfl
  case round =>
    obtain rfl := hrel
    go_wp2_with fail
    go_ret
    exact ⟨_, rfl, HE.out⟩
end
end Go.Proofs.YtafoihbkhgnecaaGreat
