/- The station's receiving part when it is new. -/
import Derived.Test.YtafoihbkhgnecaaGreatStnW
set_option linter.unusedVariables false
set_option linter.unusedSimpArgs false
namespace Go.Proofs.YtafoihbkhgnecaaGreat
open Go.RowKit Go.Proofs.Num
/-- The blocks that a new receiving part leads to. -/
def recL (z : Int) (fi ar u0 u1 u2 : Nat) : List HProp :=
  [blkP u2 (.cells #[.bool true, .bool false, .bool false, .int .i64 0, .int .i64 0, .slice none 0 0] 187 (0, 0)), blkP u1 (.cells #[.bool true, .bool false, .bool false, .int .i64 0, .int .i64 0, .slice none 0 0] 187 (0, 0)), blkP u0 (.cells #[.bool true, .bool false, .bool false, .int .i64 0, .int .i64 0, .slice none 0 0] 187 (0, 0)), blkP ar (.cells #[.bool true, .slice none 0 0] 175 (0, 0)), blkP fi (.cells #[.int .i64 z, .int .i64 0, .slice none 0 0] 127 (0, 0))]
set_option maxRecDepth 100000 in
theorem sizeRec : ∀ w, (Go.sizeOf 49).run Tryz.prog w = .ok 7 w := fun w => by first | rfl | simp [go_sem] | kernel_rfl
set_option maxRecDepth 100000 in
theorem szUnp : ∀ w, (Go.sizeOf 45).run Tryz.prog w = .ok 1 w := fun w => by first | rfl | simp [go_sem] | kernel_rfl
set_option maxRecDepth 100000 in
theorem infoRec : (Tryz.prog.info? 49).map (·.size) = some 7 := by kernel_rfl
theorem ldRec {W w : World} {l : List HProp} {b : Nat} {x0 x1 x2 x3 x4 x5 x6 : Value} (h : Sts W (blkP b (.cells #[x0, x1, x2, x3, x4, x5, x6] 49 (0, 0)) :: l) w) : (loadVar 49 ⟨b, 0, none⟩).run Tryz.prog w = .ok (.agg #[x0, x1, x2, x3, x4, x5, x6]) w := by
  have hb : w.heap[b]? = some (.cells #[x0, x1, x2, x3, x4, x5, x6] 49 (0, 0)) := by obtain ⟨F, hF⟩ := h.head; exact hF.1
  exact run_loadVar_row (P := Tryz.prog) w b 49 49 #[x0, x1, x2, x3, x4, x5, x6] (0, 0) _ hb Tryz.underlying49 rfl (by rw [infoRec]; rfl)
section
variable {W w : World} {l : List HProp} (hl : ∀ B ∈ l, Stable B)
include hl
set_option maxRecDepth 100000 in
set_option maxHeartbeats 4000000 in
theorem cRecNew (z : Int) (t c : Option Addr) (hs : Sts W l w) (h1 : 1 ≤ z) (h2 : z ≤ 1024) :
    Calls Tryz.prog 14 #[.int .i64 z, .pointer t, .pointer c] w fun e w' => ∃ fi ar u0 u1 u2, e = .returned (.agg #[.pointer (some ⟨fi, 0, none⟩), .pointer (some ⟨u0, 0, none⟩), .pointer (some ⟨u1, 0, none⟩), .pointer (some ⟨u2, 0, none⟩), .pointer (some ⟨ar, 0, none⟩), .pointer t, .pointer c]) ∧ Sts W (recL z fi ar u0 u1 u2 ++ l) w' := by
  have H0 := hid (hs.alloc hl (.cells #[.pointer none, .pointer none, .pointer none, .pointer none, .pointer none, .pointer none, .pointer none] 49))
  have HL0 := hid (stabC (blkP_stable w.heap.size (.cells #[.pointer none, .pointer none, .pointer none, .pointer none, .pointer none, .pointer none, .pointer none] 49 (0, 0))) hl)
  clear hs
  go_enter Tryz.func14, Tryz.ntmps14
  go_wp2_with (first | (go_at_call 37; refine (cFinNew HL0.out H0.out z h1 h2).mono ?_; rintro e w2 ⟨fi, rfl, h⟩; have HF := hid h; clear h) | (go_at_call 38; refine (cArcNew (stabC (blkP_stable _ _) HL0.out) HF.out).mono ?_; rintro e w3 ⟨ar, rfl, h⟩; have HA := hid (h.alloc (stabC (blkP_stable _ _) (stabC (blkP_stable _ _) HL0.out)) (.cells #[.pointer none, .pointer none, .pointer none, .pointer none, .pointer none, .pointer none, .pointer none] 49)); clear h HF) | (refine wpList_aggS HA.out (stabC (blkP_stable _ _) (stabC (blkP_stable _ _) HL0.out)) rfl (.tmp 7) (.tmp 14) 49 rfl #[.pointer (some ⟨fi, 0, none⟩), .pointer none, .pointer none, .pointer none, .pointer (some ⟨ar, 0, none⟩), .pointer t, .pointer c] rfl rfl sizeRec rfl rfl ?_; intro w4 h4; have HB := hid h4; clear h4 HA))
  obtain ⟨rb, hrb⟩ : ∃ rb, rb = w3.heap.size := ⟨_, rfl⟩
  rw [← hrb] at HB ⊢
  have HLR := hid (show ∀ B ∈ blkP ar (.cells #[.bool true, .slice none 0 0] 175 (0, 0)) :: blkP fi (.cells #[.int .i64 z, .int .i64 0, .slice none 0 0] 127 (0, 0)) :: blkP w.heap.size (.cells #[.pointer none, .pointer none, .pointer none, .pointer none, .pointer none, .pointer none, .pointer none] 49 (0, 0)) :: l, Stable B from stabC (blkP_stable _ _) (stabC (blkP_stable _ _) HL0.out))
  clear hrb
  go_loopw [15] (fun i wr => (i = .int .i64 0 ∧ Sts W (blkP rb (.cells #[.pointer (some ⟨fi, 0, none⟩), .pointer none, .pointer none, .pointer none, .pointer (some ⟨ar, 0, none⟩), .pointer t, .pointer c] 49 (0, 0)) :: blkP ar (.cells #[.bool true, .slice none 0 0] 175 (0, 0)) :: blkP fi (.cells #[.int .i64 z, .int .i64 0, .slice none 0 0] 127 (0, 0)) :: blkP w.heap.size (.cells #[.pointer none, .pointer none, .pointer none, .pointer none, .pointer none, .pointer none, .pointer none] 49 (0, 0)) :: l) wr) ∨ (∃ a0, i = .int .i64 1 ∧ Sts W (blkP rb (.cells #[.pointer (some ⟨fi, 0, none⟩), .pointer (some ⟨a0, 0, none⟩), .pointer none, .pointer none, .pointer (some ⟨ar, 0, none⟩), .pointer t, .pointer c] 49 (0, 0)) :: blkP a0 (.cells #[.bool true, .bool false, .bool false, .int .i64 0, .int .i64 0, .slice none 0 0] 187 (0, 0)) :: blkP ar (.cells #[.bool true, .slice none 0 0] 175 (0, 0)) :: blkP fi (.cells #[.int .i64 z, .int .i64 0, .slice none 0 0] 127 (0, 0)) :: blkP w.heap.size (.cells #[.pointer none, .pointer none, .pointer none, .pointer none, .pointer none, .pointer none, .pointer none] 49 (0, 0)) :: l) wr) ∨ (∃ a0 a1, i = .int .i64 2 ∧ Sts W (blkP rb (.cells #[.pointer (some ⟨fi, 0, none⟩), .pointer (some ⟨a0, 0, none⟩), .pointer (some ⟨a1, 0, none⟩), .pointer none, .pointer (some ⟨ar, 0, none⟩), .pointer t, .pointer c] 49 (0, 0)) :: blkP a1 (.cells #[.bool true, .bool false, .bool false, .int .i64 0, .int .i64 0, .slice none 0 0] 187 (0, 0)) :: blkP a0 (.cells #[.bool true, .bool false, .bool false, .int .i64 0, .int .i64 0, .slice none 0 0] 187 (0, 0)) :: blkP ar (.cells #[.bool true, .slice none 0 0] 175 (0, 0)) :: blkP fi (.cells #[.int .i64 z, .int .i64 0, .slice none 0 0] 127 (0, 0)) :: blkP w.heap.size (.cells #[.pointer none, .pointer none, .pointer none, .pointer none, .pointer none, .pointer none, .pointer none] 49 (0, 0)) :: l) wr) ∨ (∃ a0 a1 a2, i = .int .i64 3 ∧ Sts W (blkP rb (.cells #[.pointer (some ⟨fi, 0, none⟩), .pointer (some ⟨a0, 0, none⟩), .pointer (some ⟨a1, 0, none⟩), .pointer (some ⟨a2, 0, none⟩), .pointer (some ⟨ar, 0, none⟩), .pointer t, .pointer c] 49 (0, 0)) :: blkP a2 (.cells #[.bool true, .bool false, .bool false, .int .i64 0, .int .i64 0, .slice none 0 0] 187 (0, 0)) :: blkP a1 (.cells #[.bool true, .bool false, .bool false, .int .i64 0, .int .i64 0, .slice none 0 0] 187 (0, 0)) :: blkP a0 (.cells #[.bool true, .bool false, .bool false, .int .i64 0, .int .i64 0, .slice none 0 0] 187 (0, 0)) :: blkP ar (.cells #[.bool true, .slice none 0 0] 175 (0, 0)) :: blkP fi (.cells #[.int .i64 z, .int .i64 0, .slice none 0 0] 127 (0, 0)) :: blkP w.heap.size (.cells #[.pointer none, .pointer none, .pointer none, .pointer none, .pointer none, .pointer none, .pointer none] 49 (0, 0)) :: l) wr)) (fun i _ => 3 - (intOf i).toNat)
  case atStart => exact Or.inl ⟨rfl, HB.out⟩
  case round =>
    clear HB
    rcases hrel with ⟨rfl, hS⟩ | ⟨a0, rfl, hS⟩ | ⟨a0, a1, rfl, hS⟩ | ⟨a0, a1, a2, rfl, hS⟩
    · have HS := hid hS
      clear hS
      go_wp2_with (first | (go_at_call 39; refine (cUnpNew (stabC (blkP_stable _ _) HLR.out) HS.out).mono ?_; rintro e w6 ⟨u, rfl, h⟩; have HU := hid h.swap; clear h) | (refine wpList_cellS HU.out (stabC (blkP_stable _ _) HLR.out) rfl (.tmp 21) (.tmp 19) 45 rfl 1 (.pointer (some ⟨u, 0, none⟩)) rfl rfl szUnp (show 1 < 7 by decide) rfl ?_; intro w7 h7; have H7 := hid h7; clear h7))
      go_roundw
      case rel => exact Or.inr (Or.inl ⟨u, rfl, H7.out⟩)
      case measure => (simp [intOf]; try omega)
    · have HS := hid hS
      clear hS
      go_wp2_with (first | (go_at_call 39; refine (cUnpNew (stabC (blkP_stable _ _) (stabC (blkP_stable _ _) HLR.out)) HS.out).mono ?_; rintro e w6 ⟨u, rfl, h⟩; have HU := hid h.swap; clear h) | (refine wpList_cellS HU.out (stabC (blkP_stable _ _) (stabC (blkP_stable _ _) HLR.out)) rfl (.tmp 21) (.tmp 19) 45 rfl 2 (.pointer (some ⟨u, 0, none⟩)) rfl rfl szUnp (show 2 < 7 by decide) rfl ?_; intro w7 h7; have H7 := hid h7; clear h7))
      go_roundw
      case rel => exact Or.inr (Or.inr (Or.inl ⟨a0, u, rfl, H7.out⟩))
      case measure => (simp [intOf]; try omega)
    · have HS := hid hS
      clear hS
      go_wp2_with (first | (go_at_call 39; refine (cUnpNew (stabC (blkP_stable _ _) (stabC (blkP_stable _ _) (stabC (blkP_stable _ _) HLR.out))) HS.out).mono ?_; rintro e w6 ⟨u, rfl, h⟩; have HU := hid h.swap; clear h) | (refine wpList_cellS HU.out (stabC (blkP_stable _ _) (stabC (blkP_stable _ _) (stabC (blkP_stable _ _) HLR.out))) rfl (.tmp 21) (.tmp 19) 45 rfl 3 (.pointer (some ⟨u, 0, none⟩)) rfl rfl szUnp (show 3 < 7 by decide) rfl ?_; intro w7 h7; have H7 := hid h7; clear h7))
      go_roundw
      case rel => exact Or.inr (Or.inr (Or.inr ⟨a0, a1, u, rfl, H7.out⟩))
      case measure => (simp [intOf]; try omega)
    · have HS := hid hS
      clear hS
      have HX := hid (HS.out.tail.perm (show (_ :: _ :: _ :: _ :: _ :: _ :: l).Perm (_ :: _ :: _ :: _ :: _ :: _ :: l) from List.perm_middle (l₁ := [_, _, _, _, _])))
      have HLX := hid (show ∀ B ∈ recL z fi ar a0 a1 a2 ++ l, Stable B from stabC (blkP_stable _ _) (stabC (blkP_stable _ _) (stabC (blkP_stable _ _) (stabC (blkP_stable _ _) (stabC (blkP_stable _ _) hl)))))
      have HLD := hid (ldRec HS.out)
      go_wp2_with (first | (refine wpList_ldS rfl (.tmp 7) 49 rfl rfl (.agg #[.pointer (some ⟨fi, 0, none⟩), .pointer (some ⟨a0, 0, none⟩), .pointer (some ⟨a1, 0, none⟩), .pointer (some ⟨a2, 0, none⟩), .pointer (some ⟨ar, 0, none⟩), .pointer t, .pointer c]) HLD.out ?_) | (refine wpList_aggS HX.out HLX.out rfl (.tmp 6) (.tmp 23) 49 rfl #[.pointer (some ⟨fi, 0, none⟩), .pointer (some ⟨a0, 0, none⟩), .pointer (some ⟨a1, 0, none⟩), .pointer (some ⟨a2, 0, none⟩), .pointer (some ⟨ar, 0, none⟩), .pointer t, .pointer c] rfl rfl sizeRec rfl rfl ?_; intro w8 h8; have H8 := hid h8; clear h8))
      exact post_cell1S H8.out Tryz.results14 rfl rfl (ldRec H8.out) ⟨fi, ar, a0, a1, a2, rfl, H8.out.tail⟩
end
end Go.Proofs.YtafoihbkhgnecaaGreat
