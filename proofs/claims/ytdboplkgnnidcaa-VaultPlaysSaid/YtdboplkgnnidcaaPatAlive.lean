/- The examples of the chapter on loading and dumping. -/
import Derived.Test.YtdboplkgnnidcaaPatMemC
set_option linter.unusedVariables false
namespace Go.Proofs.Num
open Go.RowKit
theorem lit_new (w : World) (cs : Array Value) (t : TypeId) (n : Nat) (hs : cs.size = n) (hn : n ≤ 1000) : New w (w.alloc (.cells cs t)) t (.slice (some ⟨w.heap.size, 0, none⟩) n n) cs.toList := by
  have h := World.ownsRow_lit (base := w.heap.size) (e := t) (size := 1) w cs n (Nat.le_refl _) (by unfold maxLen; omega) (by omega)
  refine ⟨?_, (Below.refl _ _).alloc (Nat.le_refl _) _⟩
  rw [show cs.toList.length = n by simpa using hs]; exact h
end Go.Proofs.Num
namespace Go.Proofs.Ytdboplkgnnidcaa
open Go.RowKit Go.Proofs.Num
theorem one_str : ((strB (Pat.bytesOf [1])).toList == [0, 0, 0, 1]) = true := by decide +kernel
theorem load_ex1 : loadE [0, 0, 0, 0].length 3 [7, 8] (sum16 [7, 8]) = 1 := by
  have h : Pat.chkE [0, 0, 0, 0].length 3 ([7, 8] : List Nat).length = 1 := by decide
  unfold loadE; rw [h]; rfl
theorem load_ex2 : loadE [0, 0, 0, 0].length 2 [7, 8] (sum16 [7, 8]) = 0 := by
  have h : Pat.chkE [0, 0, 0, 0].length 2 ([7, 8] : List Nat).length = 0 := by decide
  unfold loadE; rw [h, if_pos rfl, if_pos rfl]
set_option maxRecDepth 100000 in
theorem cAlive (w : World) : Calls Try.prog 11 #[] w fun e w' => e = .returned (.bool true) ∧ Below w.heap.size w w' := by
  have h0 := Sts.withEmp (Sts.nil w)
  go_enter Try.func11, Try.ntmps11
  go_wp2_with fail
  refine (Sts.call stab0 h0 (wNew 4 (by decide))).mono ?_; rintro e w1 ⟨p, rfl, h1⟩
  have H1 : Hid (Sts w [wordP p 0 [0, 0, 0, 0]] w1) := h1.weaken (fun F h => h.word)
  clear h0 h1
  go_wp2_with fail
  have hB := (lit_new w1 #[.int .u8 1, .int .u8 2, .int .u8 3] 5 3 rfl (by decide)).rdB (l := [1, 2, 3]) (by decide)
  have H2 := hid (H1.out.box (stab1 (wordP_stable _ _ _)) (.cells #[.int .u8 1, .int .u8 2, .int .u8 3] 5))
  refine (cWordsBad _ _ [1, 2, 3] hB (by decide) (by decide)).mono ?_; rintro e w2 ⟨rfl, rfl⟩
  clear hB H1
  generalize w1.alloc (.cells #[.int .u8 1, .int .u8 2, .int .u8 3] 5) = w2 at *
  go_wp2_with fail
  have hN := lit_new w2 #[.int .u32 7, .int .u32 8] 48 2 rfl (by decide)
  have H3 : Hid (Sts w [wordP p 0 [0, 0, 0, 0], rowP 48 1 (.slice (some ⟨w2.heap.size, 0, none⟩) 2 2) 2 (u32s [7, 8])] (w2.alloc (.cells #[.int .u32 7, .int .u32 8] 48))) := (H2.out.new (stab1 (wordP_stable _ _ _)) hN).swap
  have hR : RdW _ _ [7, 8] := hN.rdW (l := [7, 8]) (by decide)
  have hS := hid hR
  clear hR hN H2
  generalize w2.alloc (.cells #[.int .u32 7, .int .u32 8] 48) = w3 at *
  generalize Value.slice (some ⟨w2.heap.size, 0, none⟩) 2 2 = v at *
  have hL : ∀ B ∈ [rowP 48 1 v 2 (u32s [7, 8])], Stable B := stab1 (rowP_stable _ _ _ _ _)
  have hLW := hid (stabC (wordP_stable p 0 [0, 0, 0, 0]) hL)
  have hRd : RdsW w [rowP 48 1 v 2 (u32s [7, 8])] v [7, 8] := ⟨Rds.row rfl (List.mem_singleton.2 rfl), by decide⟩
  have HRd := hid hRd
  have KS := hid (fun w' (h : RdW w' v [7, 8]) => cPSum w' v [7, 8] h (by decide))
  have KL1 := hid (fun w' (h : Sts w [wordP p 0 [0, 0, 0, 0], rowP 48 1 v 2 (u32s [7, 8])] w') => wLoad (by decide) hL h v [7, 8] hRd 3 (by decide) (sum16 [7, 8]) (by decide))
  have KL2 := hid (fun w' (h : Sts w [wordP p 0 [0, 0, 0, 0], rowP 48 1 v 2 (u32s [7, 8])] w') => wLoad (by decide) hL h v [7, 8] hRd 2 (by decide) (sum16 [7, 8]) (by decide))
  rw [load_ex1] at KL1
  rw [load_ex2] at KL2
  clear hRd
  have HL := hid hL
  clear hL
  generalize sum16 [7, 8] = z at *
  refine (KS.out _ hS.out).mono ?_; rintro e w4 ⟨rfl, h4⟩
  have H4 := hid (H3.out.quiet hLW.out h4)
  clear h4 H3 hS
  go_wp2_with fail
  refine (KL1.out _ H4.out).mono ?_; rintro e w5 ⟨rfl, h5⟩
  have H5 := hid h5
  clear h5
  go_wp2_with fail
  refine (KS.out _ (HRd.out.at H5.out)).mono ?_; rintro e w6 ⟨rfl, h6⟩
  have H6 := hid (H5.out.quiet hLW.out h6)
  clear h6 H5
  go_wp2_with fail
  refine (KL2.out _ H6.out).mono ?_; rintro e w7 ⟨rfl, h7⟩
  have H7 : Hid (Sts w [wordP p 0 [0, 0, 7, 8], rowP 48 1 v 2 (u32s [7, 8])] w7) := h7
  clear h7 H6
  go_wp2_with fail
  refine (wDump (by decide) HL.out H7.out 1 3 (by decide)).mono ?_; rintro e w8 (⟨h, _⟩ | ⟨_, r, rfl, h8⟩)
  · exact absurd (by decide) h
  · have H8 : Hid (Sts w [rowP 48 1 r 3 (u32s [0, 7, 8]), wordP p 0 [0, 0, 7, 8], rowP 48 1 v 2 (u32s [7, 8])] w8) := h8
    clear h8 H7
    go_wp2_with fail
    have hN := lit_new w8 #[.int .u32 0, .int .u32 7, .int .u32 8] 48 3 rfl (by decide)
    have hR2 : RdW _ _ [0, 7, 8] := hN.rdW (l := [0, 7, 8]) (by decide)
    have hR1 : RdW w8 r [0, 7, 8] := ⟨H8.out.rd, by decide⟩
    have hb8 := hid H8.out.below
    refine (cSame _ _ _ [0, 7, 8] [0, 7, 8] (hR1.below hN.below) hR2 (by decide) (by decide)).mono ?_; rintro e w9 ⟨rfl, h9⟩
    have hb9 := hid (hb8.out.trans ((hN.below.trans (h9.mono hN.below.size)).mono hb8.out.size))
    clear hN hR2 hR1 h9 H8 hb8
    go_wp2_with fail
    have hN := lit_new w9 #[.int .u32 1] 48 1 rfl (by decide)
    refine (cBytes _ _ [1] (hN.rdW (l := [1]) (by decide)) (by decide)).mono ?_; rintro e w10 ⟨r2, rfl, h10⟩
    have hb10 := hid (hb9.out.trans ((hN.below.trans (h10.below.mono hN.below.size)).mono hb9.out.size))
    have hs := str8 (h10.rdB (Pat.bytesOf_lt [1]))
    have ho := one_str
    clear hN h10 hb9
    generalize strB (Pat.bytesOf [1]) = sb at *
    go_wp2_with fail
    go_ret
    exact ⟨rfl, hb10.out⟩
end Go.Proofs.Ytdboplkgnnidcaa
