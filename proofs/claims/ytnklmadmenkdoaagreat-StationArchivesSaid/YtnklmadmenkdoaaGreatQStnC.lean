/- The names of no transactions: maps.Keys, slices.Collect, AppendSeq, SortFunc where there is nothing. No transactions: SortFunc of no element, courier.ids, slices.Concat of nothing. A file store without files. A file entity without transactions. -/
import Derived.Test.YtnklmadmenkdoaaGreatQNevA
import Derived.Test.YtnklmadmenkdoaaGreatQSndN
import Derived.Laws.IdiomRangeMap
import Derived.Maps.RangeRun
import Derived.Shelf.AbstractIn
import Derived.Test.YtnklmadmenkdoaaGreatQStnA
import Derived.BigQuiet
set_option linter.unusedVariables false
set_option linter.unusedSimpArgs false
namespace Go.Proofs.YtnklmadmenkdoaaGreat
open Go.RowKit Go.Shelf Go.Proofs.Num
attribute [local go_sem] Oper.semAt_some
theorem next_empty {w : World} {r bm s c : Nat} (hr : w.heap[r]? = some (.mapIter (some bm) s #[] c)) (hb : w.heap[bm]? = some (.map #[] 0)) (hsc : s ≤ c) (ty : TypeId) : (Instr.next (.pointer (some ⟨r, 0, none⟩)) false ty).run Tryz.prog w = .ok (.tuple #[.bool false]) w := by
  rcases Go.run_next_at (P := Tryz.prog) w ty r bm s c #[] #[] 0 hr hb (by simp) hsc with ⟨_, h⟩ | ⟨e, he, _⟩
  · exact h
  · simp [leftOf] at he
set_option maxRecDepth 100000 in
theorem cKeysS (w : World) (m : Nat) : Calls Tryz.prog 220 #[.map (some m)] w fun e w' => e = .returned (.func (.func 270) #[] #[.pointer (some ⟨w.heap.size, 0, none⟩)]) ∧ w' = w.alloc (.cells #[.map (some m)] 246) := by
  go_enter Tryz.func220, Tryz.ntmps220
  go_wp2
  go_ret
  exact ⟨rfl, rfl⟩
set_option maxRecDepth 100000 in
theorem cIterS (F : Fence) (n : Nat) (hF : F.fn 270) (hro : F.round = none) (l b m : Nat) (W : World) (hm : W.cell? ⟨b, 0, none⟩ = some (.map (some m))) (hb : W.heap[m]? = some (.map #[] 0)) :
    CallsIn F n Tryz.prog 270 #[.func (.yield l) #[] #[], .pointer (some ⟨b, 0, none⟩)] W fun e W' => (∃ v, e = .returned v) ∧ Below W.heap.size W W' := by
  refine callsIn_of_wp Tryz.func270 rfl hF ?_ hro
  simp only [Tryz.ntmps270, List.size_toArray, List.length_cons, List.length_nil, Nat.reduceAdd, Nat.reduceSub, Array.replicate_succ, Array.replicate_zero, List.push_toArray, List.append_toArray, List.nil_append, List.cons_append]
  have hrg := run_range_map (P := Tryz.prog) W 246 131 328 m #[] 0 Tryz.underlying246 hb
  have hnx : ∀ ty, (Instr.next (.pointer (some ⟨W.heap.size, 0, none⟩)) false ty).run Tryz.prog (W.alloc (.mapIter (some m) 0 #[] 0)) = .ok (.tuple #[.bool false]) (W.alloc (.mapIter (some m) 0 #[] 0)) := fun ty => next_empty (World.alloc_heap_new _ _) ((Below.heap_alloc _ _ _ (lt_of_heap hb)).trans hb) (Nat.le_refl _) ty
  gi_wp2
  refine wpIn_loop_rounds 1 ?_
  rw [roundsIn_succ]
  gi_wp2
  go_end0
  exact ⟨⟨_, rfl⟩, (Below.refl _ W).alloc (Nat.le_refl _) _⟩
set_option maxRecDepth 100000 in
set_option maxHeartbeats 2000000 in
theorem cApsS (w : World) (b m : Nat) (hm : w.cell? ⟨b, 0, none⟩ = some (.map (some m))) (hbs : b < w.heap.size) (hb : w.heap[m]? = some (.map #[] 0)) :
    Calls Tryz.prog 218 #[.slice none 0 0, .func (.func 270) #[] #[.pointer (some ⟨b, 0, none⟩)]] w fun e w' => e = .returned (.slice none 0 0) ∧ Below w.heap.size w w' := by
  have hms : m < w.heap.size := lt_of_heap hb
  refine (callsIn_wide (n := 3)).1 ?_
  refine callsIn_of_wp_marks Tryz.func218 rfl trivial ?_ rfl
  simp only [Tryz.ntmps218, List.size_toArray, List.length_cons, List.length_nil, Nat.reduceAdd, Nat.reduceSub, Array.replicate_succ, Array.replicate_zero, List.push_toArray, List.append_toArray, List.nil_append, List.cons_append]
  gi_wp2
  have hA := Sts.alloc stab0 (Sts.nil w) (.cells #[.slice none 0 0] 249)
  have hA1 : Below w.heap.size w (w.alloc (.cells #[.slice none 0 0] 249)) := hA.below
  generalize hW0 : w.alloc (.cells #[.slice none 0 0] 249) = W0 at *
  have hz : W0.heap.size = w.heap.size + 1 := by rw [← hW0]; simp
  refine wpIn_never (F := Fence.wide) rfl (by decide) (gf := 270) (lb := #[.pointer (some ⟨b, 0, none⟩)]) rfl trivial (enters_of Tryz.func270 (by kernel_rfl) rfl)
    (fun l W hW => cIterS Fence.wide 2 trivial rfl l b m W ((hW.cell (p := ⟨b, 0, none⟩) (by show b < _; omega)).trans ((hA1.cell (p := ⟨b, 0, none⟩) hbs).trans hm)) ((hW.block m (by omega)).trans ((hA1.block m hms).trans hb))) ?_
  intro D W hD hW hdef
  have hc : W.cell? ⟨w.heap.size, 0, none⟩ = some (.slice none 0 0) := (hW.cell (p := ⟨w.heap.size, 0, none⟩) (by show w.heap.size < _; omega)).trans (Sts.boxCell hA 0 _ rfl).1
  gi_wp2
  refine ⟨by simp, .inl ⟨_, _, rfl, run_takeDeferred hdef, ?_⟩⟩
  refine ⟨_, by simp [results, Tryz.f218, go_sem], rfl, ?_⟩
  have hb2 := hA1.trans (hW.mono (by omega))
  exact hb2.grown (grownBy_putObj' W D (.deferred none)) hb2.size (fun k hk => by injection hk with hk; omega)
set_option maxRecDepth 100000 in
theorem cKeysK (w : World) (m : Nat) : Calls Tryz.prog 221 #[.map (some m)] w fun e w' => e = .returned (.func (.func 271) #[] #[.pointer (some ⟨w.heap.size, 0, none⟩)]) ∧ w' = w.alloc (.cells #[.map (some m)] 247) := by
  go_enter Tryz.func221, Tryz.ntmps221
  go_wp2
  go_ret
  exact ⟨rfl, rfl⟩
set_option maxRecDepth 100000 in
theorem cIterK (F : Fence) (n : Nat) (hF : F.fn 271) (hro : F.round = none) (l b m : Nat) (W : World) (hm : W.cell? ⟨b, 0, none⟩ = some (.map (some m))) (hb : W.heap[m]? = some (.map #[] 0)) :
    CallsIn F n Tryz.prog 271 #[.func (.yield l) #[] #[], .pointer (some ⟨b, 0, none⟩)] W fun e W' => (∃ v, e = .returned v) ∧ Below W.heap.size W W' := by
  refine callsIn_of_wp Tryz.func271 rfl hF ?_ hro
  simp only [Tryz.ntmps271, List.size_toArray, List.length_cons, List.length_nil, Nat.reduceAdd, Nat.reduceSub, Array.replicate_succ, Array.replicate_zero, List.push_toArray, List.append_toArray, List.nil_append, List.cons_append]
  have hrg := run_range_map (P := Tryz.prog) W 247 131 330 m #[] 0 Tryz.underlying247 hb
  have hnx : ∀ ty, (Instr.next (.pointer (some ⟨W.heap.size, 0, none⟩)) false ty).run Tryz.prog (W.alloc (.mapIter (some m) 0 #[] 0)) = .ok (.tuple #[.bool false]) (W.alloc (.mapIter (some m) 0 #[] 0)) := fun ty => next_empty (World.alloc_heap_new _ _) ((Below.heap_alloc _ _ _ (lt_of_heap hb)).trans hb) (Nat.le_refl _) ty
  gi_wp2
  refine wpIn_loop_rounds 1 ?_
  rw [roundsIn_succ]
  gi_wp2
  go_end0
  exact ⟨⟨_, rfl⟩, (Below.refl _ W).alloc (Nat.le_refl _) _⟩
set_option maxRecDepth 100000 in
set_option maxHeartbeats 2000000 in
theorem cApsK (w : World) (b m : Nat) (hm : w.cell? ⟨b, 0, none⟩ = some (.map (some m))) (hbs : b < w.heap.size) (hb : w.heap[m]? = some (.map #[] 0)) :
    Calls Tryz.prog 218 #[.slice none 0 0, .func (.func 271) #[] #[.pointer (some ⟨b, 0, none⟩)]] w fun e w' => e = .returned (.slice none 0 0) ∧ Below w.heap.size w w' := by
  have hms : m < w.heap.size := lt_of_heap hb
  refine (callsIn_wide (n := 3)).1 ?_
  refine callsIn_of_wp_marks Tryz.func218 rfl trivial ?_ rfl
  simp only [Tryz.ntmps218, List.size_toArray, List.length_cons, List.length_nil, Nat.reduceAdd, Nat.reduceSub, Array.replicate_succ, Array.replicate_zero, List.push_toArray, List.append_toArray, List.nil_append, List.cons_append]
  gi_wp2
  have hA := Sts.alloc stab0 (Sts.nil w) (.cells #[.slice none 0 0] 249)
  have hA1 : Below w.heap.size w (w.alloc (.cells #[.slice none 0 0] 249)) := hA.below
  generalize hW0 : w.alloc (.cells #[.slice none 0 0] 249) = W0 at *
  have hz : W0.heap.size = w.heap.size + 1 := by rw [← hW0]; simp
  refine wpIn_never (F := Fence.wide) rfl (by decide) (gf := 271) (lb := #[.pointer (some ⟨b, 0, none⟩)]) rfl trivial (enters_of Tryz.func271 (by kernel_rfl) rfl)
    (fun l W hW => cIterK Fence.wide 2 trivial rfl l b m W ((hW.cell (p := ⟨b, 0, none⟩) (by show b < _; omega)).trans ((hA1.cell (p := ⟨b, 0, none⟩) hbs).trans hm)) ((hW.block m (by omega)).trans ((hA1.block m hms).trans hb))) ?_
  intro D W hD hW hdef
  have hc : W.cell? ⟨w.heap.size, 0, none⟩ = some (.slice none 0 0) := (hW.cell (p := ⟨w.heap.size, 0, none⟩) (by show w.heap.size < _; omega)).trans (Sts.boxCell hA 0 _ rfl).1
  gi_wp2
  refine ⟨by simp, .inl ⟨_, _, rfl, run_takeDeferred hdef, ?_⟩⟩
  refine ⟨_, by simp [results, Tryz.f218, go_sem], rfl, ?_⟩
  have hb2 := hA1.trans (hW.mono (by omega))
  exact hb2.grown (grownBy_putObj' W D (.deferred none)) hb2.size (fun k hk => by injection hk with hk; omega)
set_option maxRecDepth 100000 in
theorem cCollectS (w : World) (b m : Nat) (hm : w.cell? ⟨b, 0, none⟩ = some (.map (some m))) (hbs : b < w.heap.size) (hb : w.heap[m]? = some (.map #[] 0)) :
    Calls Tryz.prog 219 #[.func (.func 270) #[] #[.pointer (some ⟨b, 0, none⟩)]] w fun e w' => e = .returned (.slice none 0 0) ∧ Below w.heap.size w w' := by
  have K := hid (cApsS w b m hm hbs hb)
  clear hm hbs hb
  go_enter Tryz.func219, Tryz.ntmps219
  go_wp2_with (go_at_call 218; refine K.out.mono ?_; rintro e w1 ⟨rfl, hb⟩)
  go_ret
  exact ⟨rfl, hb⟩
end Go.Proofs.YtnklmadmenkdoaaGreat
namespace Go.Proofs.YtnklmadmenkdoaaGreat
open Go.RowKit Go.Proofs.Num
set_option maxRecDepth 100000 in
theorem cLen64z (w : World) : Calls Tryz.prog 319 #[.int .u64 0] w fun e w' => e = .returned (.int .i64 0) ∧ w = w' := by
  go_enter Tryz.func319, Tryz.ntmps319
  go_wp2
  go_ret
  exact ⟨by kernel_rfl, rfl⟩
set_option maxRecDepth 100000 in
theorem cLenz (w : World) : Calls Tryz.prog 273 #[.int .u64 0] w fun e w' => e = .returned (.int .i64 0) ∧ w = w' := by
  go_enter Tryz.func273, Tryz.ntmps273
  go_wp2_with (go_at_call 319; refine (cLen64z _).mono ?_; rintro e w1 ⟨rfl, rfl⟩)
  go_ret
  exact ⟨rfl, rfl⟩
set_option maxRecDepth 100000 in
theorem cInsNil (w : World) (f : Value) : Calls Tryz.prog 310 #[.slice none 0 0, .int .i64 0, .int .i64 0, f] w fun e w' => e = .returned (.tuple #[]) ∧ w = w' := by
  go_enter Tryz.func310, Tryz.ntmps310
  go_wp2
  go_loopw [8] (fun i wr => i = .int .i64 1 ∧ wr = w) (fun _ _ => 0)
  case atStart => exact ⟨rfl, rfl⟩
  case round =>
    obtain ⟨rfl, rfl⟩ := hrel
    go_wp2_with fail
    go_end0
    exact ⟨rfl, rfl⟩
set_option maxRecDepth 100000 in
theorem cPdqNil (w : World) (f : Value) : Calls Tryz.prog 272 #[.slice none 0 0, .int .i64 0, .int .i64 0, .int .i64 0, f] w fun e w' => e = .returned (.tuple #[]) ∧ w = w' := by
  go_enter Tryz.func272, Tryz.ntmps272
  go_wp2_with fail
  go_loopw [1, 2] (fun x y wr => x = .int .i64 0 ∧ y = .int .i64 0 ∧ wr = w) (fun _ _ _ => 0)
  case atStart => exact ⟨rfl, rfl, rfl⟩
  case round =>
    obtain ⟨rfl, rfl, rfl⟩ := hrel
    go_wp2_with (go_at_call 310; refine (cInsNil _ _).mono ?_; rintro e w1 ⟨rfl, rfl⟩)
    try simp only [Exit.inBlock, Exit.then]
    refine bodyPost_ret (results_none rfl _ _ _) rfl ?_
    exact ⟨rfl, rfl⟩
set_option maxRecDepth 100000 in
theorem cSortNil (w : World) (f : Value) : Calls Tryz.prog 222 #[.slice none 0 0, f] w fun e w' => e = .returned (.tuple #[]) ∧ w = w' := by
  go_enter Tryz.func222, Tryz.ntmps222
  go_wp2_with (first
    | (go_at_call 273; refine (cLenz _).mono ?_; rintro e w1 ⟨rfl, rfl⟩)
    | (go_at_call 272; refine (cPdqNil _ _).mono ?_; rintro e w1 ⟨rfl, rfl⟩))
  go_end0
  exact ⟨rfl, rfl⟩
abbrev couB (c m1 m2 m3 q t : Nat) : HProp := blkP c (.cells #[.bool true, .int .i64 1, .pointer (some ⟨q, 0, none⟩), .int .i64 64, .int .i64 40, .int .i64 10, .int .i64 (t : Int), .int .i64 1, .map (some m1), .map (some m2), .map (some m3), .slice none 0 0, .slice none 0 0, .bool false, .pointer none] 253 (0, 0))
abbrev mapO (m : Nat) : HProp := blkP m (.map #[] 0)
theorem Sts.blk {W w : World} {l : List HProp} {b : Nat} {o : Obj} (h : Sts W (blkP b o :: l) w) : w.heap[b]? = some o := by obtain ⟨F, hF⟩ := h.head; exact hF.1
section
variable {W w : World} {l : List HProp}
set_option maxRecDepth 100000 in
set_option maxHeartbeats 4000000 in
theorem cIds (hl : ∀ B ∈ l, Stable B) {c m1 m2 m3 q t : Nat} (hs : Sts W (couB c m1 m2 m3 q t :: mapO m1 :: mapO m2 :: l) w) :
    Calls Tryz.prog 142 #[.pointer (some ⟨c, 0, none⟩)] w fun e w' => e = .returned (.slice none 0 0) ∧ Sts W (couB c m1 m2 m3 q t :: mapO m1 :: mapO m2 :: l) w' := by
  have HS := hid hs
  have HL := hid hl
  clear hs hl
  go_enter Tryz.func142, Tryz.ntmps142
  go_wp2_with fail
  refine wp_region_ordQ (.pure 0 (.pure 1 (.pure 2 (.pure 3 (.pure 6 (.pure 7 (.pure 8 (.pure 9 (.eff 4 (.eff 5 (.eff 10 (.eff 11 (.pure 12 .nil))))))))))))) (fun y => y.cell? ⟨c, 8, none⟩ = some (.map (some m1)) ∧ y.cell? ⟨c, 9, none⟩ = some (.map (some m2))) (fun y => Sts W (couB c m1 m2 m3 q t :: mapO m1 :: mapO m2 :: l) y) (by kernel_rfl) (by kernel_rfl) (HS.out.drew (stabC (blkP_stable _ _) (stabC (blkP_stable _ _) (stabC (blkP_stable _ _) (HL.out))))) (fun y hy => ⟨(Sts.boxCell hy 8 _ rfl).1, (Sts.boxCell hy 9 _ rfl).1⟩) ?_
  iterate 8
    (apply ordq_pure (ho := rfl)
     · go_simp
     · intro x hx; obtain ⟨k0, k1⟩ := hx; go_simp; rfl
     apply ordq_norm
     · go_simp; rfl)
  apply ordq_eff (ho := rfl)
  · go_simp
  intro y hy
  have hy2 := Sts.alloc (stabC (blkP_stable _ _) (stabC (blkP_stable _ _) (stabC (blkP_stable _ _) (HL.out)))) hy (.cells #[.map (some m1)] 246)
  refine eff_call (f := 220) (by go_simp) (cKeysS y m1) ?_
  rintro e w3 ⟨rfl, rfl⟩
  refine ⟨_, rfl, (fun y => y.cell? ⟨c, 8, none⟩ = some (.map (some m1)) ∧ y.cell? ⟨c, 9, none⟩ = some (.map (some m2))), (fun z => Sts W (blkP y.heap.size (.cells #[.map (some m1)] 246 (0, 0)) :: couB c m1 m2 m3 q t :: mapO m1 :: mapO m2 :: l) z), hy2, (fun y hy => ⟨(Sts.boxCell hy.tail 8 _ rfl).1, (Sts.boxCell hy.tail 9 _ rfl).1⟩), (fun _ h => h), ?_⟩
  apply ordq_norm
  · go_simp; rfl
  clear hy hy2
  generalize y.heap.size = b1 at *
  clear y
  apply ordq_eff (ho := rfl)
  · go_simp
  intro y hy
  refine eff_call (f := 219) (by go_simp) (cCollectS y b1 m1 (Sts.boxCell hy 0 _ rfl).1 (lt_of_heap (Sts.blk hy)) (Sts.blk (hy.tail.tail))) ?_
  rintro e w3 ⟨rfl, hq⟩
  refine ⟨_, rfl, (fun y => y.cell? ⟨c, 8, none⟩ = some (.map (some m1)) ∧ y.cell? ⟨c, 9, none⟩ = some (.map (some m2))), (fun z => Sts W (blkP b1 (.cells #[.map (some m1)] 246 (0, 0)) :: couB c m1 m2 m3 q t :: mapO m1 :: mapO m2 :: l) z), hy.quiet (stabC (blkP_stable _ _) (stabC (blkP_stable _ _) (stabC (blkP_stable _ _) (stabC (blkP_stable _ _) (HL.out))))) hq, (fun y hy => ⟨(Sts.boxCell hy.tail 8 _ rfl).1, (Sts.boxCell hy.tail 9 _ rfl).1⟩), (fun _ h => h), ?_⟩
  apply ordq_norm
  · go_simp; rfl
  clear hy hq y
  apply ordq_eff (ho := rfl)
  · go_simp
  intro y hy
  have hy2 := Sts.alloc (stabC (blkP_stable _ _) (stabC (blkP_stable _ _) (stabC (blkP_stable _ _) (stabC (blkP_stable _ _) (HL.out))))) hy (.cells #[.map (some m2)] 247)
  refine eff_call (f := 221) (by go_simp) (cKeysK y m2) ?_
  rintro e w3 ⟨rfl, rfl⟩
  refine ⟨_, rfl, (fun y => y.cell? ⟨c, 8, none⟩ = some (.map (some m1)) ∧ y.cell? ⟨c, 9, none⟩ = some (.map (some m2))), (fun z => Sts W (blkP y.heap.size (.cells #[.map (some m2)] 247 (0, 0)) :: blkP b1 (.cells #[.map (some m1)] 246 (0, 0)) :: couB c m1 m2 m3 q t :: mapO m1 :: mapO m2 :: l) z), hy2, (fun y hy => ⟨(Sts.boxCell hy.tail.tail 8 _ rfl).1, (Sts.boxCell hy.tail.tail 9 _ rfl).1⟩), (fun _ h => h), ?_⟩
  apply ordq_norm
  · go_simp; rfl
  clear hy hy2
  generalize y.heap.size = b2 at *
  clear y
  apply ordq_eff (ho := rfl)
  · go_simp
  intro y hy
  refine eff_call (f := 218) (by go_simp) (cApsK y b2 m2 (Sts.boxCell hy 0 _ rfl).1 (lt_of_heap (Sts.blk hy)) (Sts.blk (hy.tail.tail.tail.tail))) ?_
  rintro e w3 ⟨rfl, hq⟩
  refine ⟨_, rfl, (fun y => y.cell? ⟨c, 8, none⟩ = some (.map (some m1)) ∧ y.cell? ⟨c, 9, none⟩ = some (.map (some m2))), (fun z => Sts W (blkP b2 (.cells #[.map (some m2)] 247 (0, 0)) :: blkP b1 (.cells #[.map (some m1)] 246 (0, 0)) :: couB c m1 m2 m3 q t :: mapO m1 :: mapO m2 :: l) z), hy.quiet (stabC (blkP_stable _ _) (stabC (blkP_stable _ _) (stabC (blkP_stable _ _) (stabC (blkP_stable _ _) (stabC (blkP_stable _ _) (HL.out)))))) hq, (fun y hy => ⟨(Sts.boxCell hy.tail.tail 8 _ rfl).1, (Sts.boxCell hy.tail.tail 9 _ rfl).1⟩), (fun _ h => h), ?_⟩
  apply ordq_norm
  · go_simp; rfl
  clear hy hq y
  iterate 1
    (apply ordq_pure (ho := rfl)
     · go_simp
     · intro x hx; go_simp; rfl
     apply ordq_norm
     · go_simp; rfl)
  refine ordq_nil fun z hz => ?_
  have HZ := hid hz
  clear hz HS
  go_wp2_with (go_at_call 222; refine (cSortNil _ _).mono ?_; rintro e w1 ⟨rfl, rfl⟩)
  go_ret
  exact ⟨rfl, HZ.out.tail.tail⟩
end
end Go.Proofs.YtnklmadmenkdoaaGreat
namespace Go.Proofs.YtnklmadmenkdoaaGreat
open Go.RowKit Go.Proofs.Num
theorem run_next_empty {P : Program} (w : World) (ty : TypeId) (bm : Nat) (hb : w.heap[bm]? = some (.map #[] 0)) :
    (Instr.next (.pointer (some ⟨w.heap.size, 0, none⟩)) false ty).run P (w.alloc (.mapIter (some bm) 0 #[] 0)) = .ok (.tuple #[.bool false]) (w.alloc (.mapIter (some bm) 0 #[] 0)) := by
  rcases run_next_map (P := P) w ty bm 0 0 #[] #[] 0 hb (by simp) (Nat.le_refl _) with ⟨-, h⟩ | ⟨e, he, -⟩
  · exact h
  · simp [leftOf] at he
section
variable {W w : World} {l : List HProp} (hl : ∀ B ∈ l, Stable B)
include hl
set_option maxRecDepth 100000 in
theorem cFilNew (hs : Sts W l w) (a b : Int) (h1 : 0 ≤ a ∧ a ≤ 256) (h2 : 0 ≤ b ∧ b ≤ 2147483648) : Calls Tryz.prog 105 #[.int .i64 a, .int .i64 b] w fun e w' => ∃ q m, e = .returned (.pointer (some ⟨q, 0, none⟩)) ∧ Sts W (blkP q (.cells #[.int .i64 a, .int .i64 b, .map (some m)] 300 (0, 0)) :: blkP m (.map #[] 0) :: l) w' := by
  have H0 := hid (hs.alloc hl (.map #[] 0))
  have H1 := hid (H0.out.alloc (stabC (blkP_stable _ _) hl) (.cells #[.int .i64 a, .int .i64 b, .map (some w.heap.size)] 300))
  have n1 : max a 0 = a := by omega
  have n2 : max b 0 = b := by omega
  have m1 : min a 256 = a := by omega
  have m2 : min b 2147483648 = b := by omega
  have hmm := @run_makeMap Tryz.prog
  clear hs h1 h2
  go_enter Tryz.func105, Tryz.ntmps105
  go_wp2_with fail
  go_ret
  exact ⟨_, _, rfl, by simpa using H1.out⟩
omit hl in
set_option maxRecDepth 100000 in
theorem cFilUsable (q m : Nat) (a b : Int) (hs : Sts W (blkP q (.cells #[.int .i64 a, .int .i64 b, .map (some m)] 300 (0, 0)) :: l) w) : Calls Tryz.prog 253 #[.pointer (some ⟨q, 0, none⟩)] w fun e w' => e = .returned (.bool true) ∧ w = w' := by
  have k2 := (Sts.boxCell hs 2 _ rfl).1
  clear hs
  have qm : ∀ w, (binOp .neq 298 (.map (some m)) (.map none)).run Tryz.prog w = .ok (.bool true) w := fun _ => by first | rfl | kernel_rfl
  go_enter Tryz.func253, Tryz.ntmps253
  go_wp2_with fail
  go_ret
  exact ⟨rfl, rfl⟩
set_option maxRecDepth 100000 in
set_option maxHeartbeats 2000000 in
theorem cFilClone (q m : Nat) (a b : Int) (hs : Sts W (blkP q (.cells #[.int .i64 a, .int .i64 b, .map (some m)] 300 (0, 0)) :: blkP m (.map #[] 0) :: l) w) (h1 : 0 ≤ a ∧ a ≤ 256) (h2 : 0 ≤ b ∧ b ≤ 2147483648) : Calls Tryz.prog 194 #[.pointer (some ⟨q, 0, none⟩)] w fun e w' => ∃ q', e = .returned (.pointer (some ⟨q', 0, none⟩)) ∧ Sts W (blkP q (.cells #[.int .i64 a, .int .i64 b, .map (some m)] 300 (0, 0)) :: blkP m (.map #[] 0) :: l) w' := by
  have HS := hid hs
  have HL := hid (stabC (blkP_stable q (.cells #[.int .i64 a, .int .i64 b, .map (some m)] 300 (0, 0))) (stabC (blkP_stable m (.map #[] 0)) hl))
  have k0 := (Sts.boxCell hs 0 _ rfl).1
  have k1 := (Sts.boxCell hs 1 _ rfl).1
  have k2 := (Sts.boxCell hs 2 _ rfl).1
  clear hs hl
  go_enter Tryz.func194, Tryz.ntmps194
  go_wp2_with (first | (go_at_call 253; refine (cFilUsable q m a b HS.out).mono ?_; rintro e w2 ⟨rfl, rfl⟩))
  refine wp_region_ord (.pure 0 (.pure 1 (.pure 2 (.pure 3 (.pure 4 (.pure 5 (.pure 6 (.pure 7 (.eff 8 (.pure 9 .nil)))))))))) (fun y => y.cell? ⟨q, 0, none⟩ = some (.int .i64 a) ∧ y.cell? ⟨q, 1, none⟩ = some (.int .i64 b)) (fun y => Sts W (blkP q (.cells #[.int .i64 a, .int .i64 b, .map (some m)] 300 (0, 0)) :: blkP m (.map #[] 0) :: l) y) (by kernel_rfl) (by kernel_rfl) (HS.out.drew HL.out) (fun y hy => ⟨(Sts.boxCell hy 0 _ rfl).1, (Sts.boxCell hy 1 _ rfl).1⟩) ?_
  iterate 8
    (apply ord_pure (ho := rfl)
     · go_simp
     · intro x hx; obtain ⟨k0, k1⟩ := hx; go_simp; rfl
     apply ord_norm
     · go_simp; rfl)
  apply ord_eff (ho := rfl)
  · go_simp
  intro y hy
  refine eff_call (f := 105) (by go_simp) (cFilNew HL.out hy a b h1 h2) ?_
  rintro e w3 ⟨q2, m2, rfl, h3⟩
  refine ⟨_, rfl, (fun y => y.cell? ⟨q, 0, none⟩ = some (.int .i64 a) ∧ y.cell? ⟨q, 1, none⟩ = some (.int .i64 b)), (fun y => Sts W (blkP q2 (.cells #[.int .i64 a, .int .i64 b, .map (some m2)] 300 (0, 0)) :: blkP m2 (.map #[] 0) :: blkP q (.cells #[.int .i64 a, .int .i64 b, .map (some m)] 300 (0, 0)) :: blkP m (.map #[] 0) :: l) y), h3, (fun y hy => ⟨(Sts.boxCell hy.tail.tail 0 _ rfl).1, (Sts.boxCell hy.tail.tail 1 _ rfl).1⟩), (fun _ h => h), ?_⟩
  clear h3 hy y
  apply ord_norm
  · go_simp; rfl
  iterate 1
    (apply ord_pure (ho := rfl)
     · go_simp
     · intro x hx; go_simp; rfl
     apply ord_norm
     · go_simp; rfl)
  refine ord_nil fun z hz => ?_
  have HZ := hid hz.tail.tail
  have k2 : z.cell? ⟨q, 2, none⟩ = some (.map (some m)) := (Sts.boxCell HZ.out 2 _ rfl).1
  have hm : z.heap[m]? = some (.map #[] 0) := by obtain ⟨F, hF⟩ := HZ.out.tail.head; exact hF.1
  clear hz
  have hr := run_range_map (P := Tryz.prog) z 298 9 35 m #[] 0 Tryz.underlying298 hm
  have hn := fun ty => run_next_empty (P := Tryz.prog) z ty m hm
  have HE := hid (Sts.box HL.out HZ.out (.mapIter (some m) 0 #[] 0))
  clear hm
  go_wp2_with fail
  go_loopw [4] (fun _ wr => wr = z.alloc (.mapIter (some m) 0 #[] 0)) (fun _ _ => 0)
  case atStart => rfl
  case round =>
    obtain rfl := hrel
    go_wp2_with fail
    go_ret
    exact ⟨_, rfl, HE.out⟩
end
end Go.Proofs.YtnklmadmenkdoaaGreat
namespace Go.Proofs.YtnklmadmenkdoaaGreat
open Go.RowKit Go.Proofs.Num
set_option maxRecDepth 100000 in
theorem infoCfg : (Tryz.prog.info? 29).map (·.size) = some 3 := by kernel_rfl
theorem ldCfg {W w : World} {l : List HProp} {b : Nat} {x y z : Value} (h : Sts W (blkP b (.cells #[x, y, z] 29 (0, 0)) :: l) w) : (loadVar 29 ⟨b, 0, none⟩).run Tryz.prog w = .ok (.agg #[x, y, z]) w := by
  have hb : w.heap[b]? = some (.cells #[x, y, z] 29 (0, 0)) := by obtain ⟨F, hF⟩ := h.head; exact hF.1
  exact run_loadVar_row (P := Tryz.prog) w b 29 29 #[x, y, z] (0, 0) _ hb Tryz.underlying29 rfl (by rw [infoCfg]; rfl)
section
variable {W w : World} {l : List HProp} (hl : ∀ B ∈ l, Stable B)
include hl
set_option maxRecDepth 100000 in
set_option maxHeartbeats 2000000 in
theorem cCouNew (self chunk to re : Int) (q m : Nat) (a b : Int) (hs : Sts W (blkP q (.cells #[.int .i64 a, .int .i64 b, .map (some m)] 300 (0, 0)) :: blkP m (.map #[] 0) :: l) w) (h1 : 0 ≤ a ∧ a ≤ 256) (h2 : 0 ≤ b ∧ b ≤ 2147483648)
    (h3 : 0 ≤ self ∧ self ≤ 15) (h4 : 1 ≤ chunk ∧ chunk ≤ 512) (h5 : 1 ≤ to ∧ to ≤ 1048576) (h6 : 0 ≤ re ∧ re ≤ 255) :
    Calls Tryz.prog 104 #[.int .i64 self, .pointer (some ⟨q, 0, none⟩), .agg #[.int .i64 chunk, .int .i64 to, .int .i64 re]] w fun e w' => ∃ c m1 m2 m3, e = .returned (.tuple #[.pointer (some ⟨c, 0, none⟩), .int .i64 0]) ∧
      Sts W (blkP c (.cells #[.bool true, .int .i64 self, .pointer (some ⟨q, 0, none⟩), .int .i64 chunk, .int .i64 to, .int .i64 re, .int .i64 0, .int .i64 1, .map (some m1), .map (some m2), .map (some m3), .slice none 0 0, .slice none 0 0, .bool false, .pointer none] 253 (0, 0)) :: blkP m3 (.map #[] 0) :: blkP m2 (.map #[] 0) :: blkP m1 (.map #[] 0) :: blkP q (.cells #[.int .i64 a, .int .i64 b, .map (some m)] 300 (0, 0)) :: blkP m (.map #[] 0) :: l) w' := by
  have HL := hid (stabC (blkP_stable q (.cells #[.int .i64 a, .int .i64 b, .map (some m)] 300 (0, 0))) (stabC (blkP_stable m (.map #[] 0)) hl))
  have HA := hs.alloc HL.out (.cells #[.int .i64 chunk, .int .i64 to, .int .i64 re] 29)
  have k0 := (Sts.boxCell HA 0 _ rfl).1
  have k1 := (Sts.boxCell HA 1 _ rfl).1
  have k2 := (Sts.boxCell HA 2 _ rfl).1
  have HS := hid (Sts.third' HA)
  have hlc := hid (stabC (blkP_stable w.heap.size (.cells #[.int .i64 chunk, .int .i64 to, .int .i64 re] 29 (0, 0))) hl)
  clear HA
  have d1 : decide (self < 0) = false := decide_eq_false (by omega)
  have d2 : decide (15 < self) = false := decide_eq_false (by omega)
  have d3 : decide (chunk < 1) = false := decide_eq_false (by omega)
  have d4 : decide (512 < chunk) = false := decide_eq_false (by omega)
  have d5 : decide (to < 1) = false := decide_eq_false (by omega)
  have d6 : decide (1048576 < to) = false := decide_eq_false (by omega)
  have d7 : decide (re < 0) = false := decide_eq_false (by omega)
  have d8 : decide (255 < re) = false := decide_eq_false (by omega)
  have hmm := @run_makeMap Tryz.prog
  clear hs h3 h4 h5 h6
  go_enter Tryz.func104, Tryz.ntmps104
  go_wp2_with (first | (go_at_call 194; refine (cFilClone hlc.out q m a b HS.out h1 h2).mono ?_; rintro e w2 ⟨q', rfl, hc⟩; have HC := hid hc; clear hc) | (refine wpList_ldS rfl (.tmp 5) 29 rfl rfl (.agg #[.int .i64 chunk, .int .i64 to, .int .i64 re]) (ldCfg (Sts.third HC.out)) ?_))
  go_ret2
  have HLC := stabC (blkP_stable q (.cells #[.int .i64 a, .int .i64 b, .map (some m)] 300 (0, 0))) (stabC (blkP_stable m (.map #[] 0)) hlc.out)
  have g1 := HC.out.alloc HLC (.map #[] 0)
  have g2 := g1.alloc (stabC (blkP_stable _ _) HLC) (.map #[] 0)
  have g3 := g2.alloc (stabC (blkP_stable _ _) (stabC (blkP_stable _ _) HLC)) (.map #[] 0)
  have g4 := g3.alloc (stabC (blkP_stable _ _) (stabC (blkP_stable _ _) (stabC (blkP_stable _ _) HLC))) (.cells #[.bool true, .int .i64 self, .pointer (some ⟨q, 0, none⟩), .int .i64 chunk, .int .i64 to, .int .i64 re, .int .i64 0, .int .i64 1, .map (some w2.heap.size), .map (some (w2.heap.size + 1)), .map (some (w2.heap.size + 1 + 1)), .slice none 0 0, .slice none 0 0, .bool false, .pointer none] 253)
  have g5 := (g4.perm (show (_ :: _ :: _ :: _ :: _ :: _ :: _ :: l).Perm (_ :: _ :: _ :: _ :: _ :: _ :: _ :: l) from List.perm_middle (l₁ := [_, _, _, _, _, _]))).tail
  have e1 : (w2.alloc (.map #[] 0)).heap.size = w2.heap.size + 1 := Array.size_push ..
  have e2 : ((w2.alloc (.map #[] 0)).alloc (.map #[] 0)).heap.size = w2.heap.size + 1 + 1 := by show (Array.push _ _).size = _; rw [Array.size_push, e1]
  have e3 : (((w2.alloc (.map #[] 0)).alloc (.map #[] 0)).alloc (.map #[] 0)).heap.size = w2.heap.size + 1 + 1 + 1 := by show (Array.push _ _).size = _; rw [Array.size_push, e2]
  rw [e1, e2, e3] at g5
  exact ⟨_, _, _, _, rfl, g5⟩
end
end Go.Proofs.YtnklmadmenkdoaaGreat
