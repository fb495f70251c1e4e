/- A file entity without transactions. -/
import Derived.Test.YtafoihbkhgnecaaGreatStnF
set_option linter.unusedVariables false
set_option linter.unusedSimpArgs false
namespace Go.Proofs.YtafoihbkhgnecaaGreat
open Go.RowKit Go.Proofs.Num
set_option maxRecDepth 100000 in
theorem infoCfg : (Tryz.prog.info? 23).map (·.size) = some 3 := by kernel_rfl
theorem ldCfg {W w : World} {l : List HProp} {b : Nat} {x y z : Value} (h : Sts W (blkP b (.cells #[x, y, z] 23 (0, 0)) :: l) w) : (loadVar 23 ⟨b, 0, none⟩).run Tryz.prog w = .ok (.agg #[x, y, z]) w := by
  have hb : w.heap[b]? = some (.cells #[x, y, z] 23 (0, 0)) := by obtain ⟨F, hF⟩ := h.head; exact hF.1
  exact run_loadVar_row (P := Tryz.prog) w b 23 23 #[x, y, z] (0, 0) _ hb Tryz.underlying23 rfl (by rw [infoCfg]; rfl)
section
variable {W w : World} {l : List HProp} (hl : ∀ B ∈ l, Stable B)
include hl
set_option maxRecDepth 100000 in
set_option maxHeartbeats 2000000 in
theorem cCouNew (self chunk to re : Int) (q m : Nat) (a b : Int) (hs : Sts W (blkP q (.cells #[.int .i64 a, .int .i64 b, .map (some m)] 185 (0, 0)) :: blkP m (.map #[] 0) :: l) w) (h1 : 0 ≤ a ∧ a ≤ 256) (h2 : 0 ≤ b ∧ b ≤ 2147483648)
    (h3 : 0 ≤ self ∧ self ≤ 15) (h4 : 1 ≤ chunk ∧ chunk ≤ 512) (h5 : 1 ≤ to ∧ to ≤ 1048576) (h6 : 0 ≤ re ∧ re ≤ 255) :
    Calls Tryz.prog 35 #[.int .i64 self, .pointer (some ⟨q, 0, none⟩), .agg #[.int .i64 chunk, .int .i64 to, .int .i64 re]] w fun e w' => ∃ c m1 m2 m3, e = .returned (.tuple #[.pointer (some ⟨c, 0, none⟩), .int .i64 0]) ∧
      Sts W (blkP c (.cells #[.bool true, .int .i64 self, .pointer (some ⟨q, 0, none⟩), .int .i64 chunk, .int .i64 to, .int .i64 re, .int .i64 0, .int .i64 1, .map (some m1), .map (some m2), .map (some m3), .slice none 0 0, .slice none 0 0, .bool false, .pointer none] 153 (0, 0)) :: blkP m3 (.map #[] 0) :: blkP m2 (.map #[] 0) :: blkP m1 (.map #[] 0) :: blkP q (.cells #[.int .i64 a, .int .i64 b, .map (some m)] 185 (0, 0)) :: blkP m (.map #[] 0) :: l) w' := by
  have HL := hid (stabC (blkP_stable q (.cells #[.int .i64 a, .int .i64 b, .map (some m)] 185 (0, 0))) (stabC (blkP_stable m (.map #[] 0)) hl))
  have HA := hs.alloc HL.out (.cells #[.int .i64 chunk, .int .i64 to, .int .i64 re] 23)
  have k0 := (Sts.boxCell HA 0 _ rfl).1
  have k1 := (Sts.boxCell HA 1 _ rfl).1
  have k2 := (Sts.boxCell HA 2 _ rfl).1
  have HS := hid (Sts.third' HA)
  have hlc := hid (stabC (blkP_stable w.heap.size (.cells #[.int .i64 chunk, .int .i64 to, .int .i64 re] 23 (0, 0))) hl)
  clear HA
  have d1 : decide (self < 0) = false := decide_eq_false (by omega)
  have d2 : decide (15 < self) = false := decide_eq_false (by omega)
  have d3 : decide (chunk < 1) = false := decide_eq_false (by omega)
  have d4 : decide (512 < chunk) = false := decide_eq_false (by omega)
  have d5 : decide (to < 1) = false := decide_eq_false (by omega)
  have d6 : decide (1048576 < to) = false := decide_eq_false (by omega)
  have d7 : decide (re < 0) = false := decide_eq_false (by omega)
  have d8 : decide (255 < re) = false := decide_eq_false (by omega)
  have hmm := @run_makeMap Tryz.prog
  clear hs h3 h4 h5 h6
  go_enter Tryz.func35, Tryz.ntmps35
  go_wp2_with (first | (go_at_call 92; refine (cFilClone hlc.out q m a b HS.out h1 h2).mono ?_; rintro e w2 ⟨q', rfl, hc⟩; have HC := hid hc; clear hc) | (refine wpList_ldS rfl (.tmp 5) 23 rfl rfl (.agg #[.int .i64 chunk, .int .i64 to, .int .i64 re]) (ldCfg (Sts.third HC.out)) ?_))
  go_ret2
  have HLC := stabC (blkP_stable q (.cells #[.int .i64 a, .int .i64 b, .map (some m)] 185 (0, 0))) (stabC (blkP_stable m (.map #[] 0)) hlc.out)
  have g1 := HC.out.alloc HLC (.map #[] 0)
  have g2 := g1.alloc (stabC (blkP_stable _ _) HLC) (.map #[] 0)
  have g3 := g2.alloc (stabC (blkP_stable _ _) (stabC (blkP_stable _ _) HLC)) (.map #[] 0)
  have g4 := g3.alloc (stabC (blkP_stable _ _) (stabC (blkP_stable _ _) (stabC (blkP_stable _ _) HLC))) (.cells #[.bool true, .int .i64 self, .pointer (some ⟨q, 0, none⟩), .int .i64 chunk, .int .i64 to, .int .i64 re, .int .i64 0, .int .i64 1, .map (some w2.heap.size), .map (some (w2.heap.size + 1)), .map (some (w2.heap.size + 1 + 1)), .slice none 0 0, .slice none 0 0, .bool false, .pointer none] 153)
  have g5 := (g4.perm (show (_ :: _ :: _ :: _ :: _ :: _ :: _ :: l).Perm (_ :: _ :: _ :: _ :: _ :: _ :: _ :: l) from List.perm_middle (l₁ := [_, _, _, _, _, _]))).tail
  have e1 : (w2.alloc (.map #[] 0)).heap.size = w2.heap.size + 1 := Array.size_push ..
  have e2 : ((w2.alloc (.map #[] 0)).alloc (.map #[] 0)).heap.size = w2.heap.size + 1 + 1 := by show (Array.push _ _).size = _; rw [Array.size_push, e1]
  have e3 : (((w2.alloc (.map #[] 0)).alloc (.map #[] 0)).alloc (.map #[] 0)).heap.size = w2.heap.size + 1 + 1 + 1 := by show (Array.push _ _).size = _; rw [Array.size_push, e2]
  rw [e1, e2, e3] at g5
  exact ⟨_, _, _, _, rfl, g5⟩
end
end Go.Proofs.YtafoihbkhgnecaaGreat
