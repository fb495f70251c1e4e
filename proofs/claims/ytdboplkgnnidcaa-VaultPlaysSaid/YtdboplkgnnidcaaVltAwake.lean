/- The chapter's example: spacecraftlaw32.awake. -/
import Derived.Test.YtdboplkgnnidcaaVltSaved
import Derived.Test.YtdboplkgnnidcaaPatAlive
import Derived.Lib.SlBytesConst
set_option linter.unusedVariables false
set_option linter.unusedSimpArgs false
namespace Go.Proofs.Ytdboplkgnnidcaa
open Go.RowKit Go.Proofs.Num
def aw1 : Nat × List Nat := Vlt.saveV (List.replicate 20 0) 0 10 [111, 110, 101] (-1)
def aw2 : Nat × List Nat := Vlt.saveV aw1.2 0 10 [116, 119, 111] 1
theorem aw1_1 : aw1.1 = 0 := by kernel_rfl
theorem aw1_len : aw1.2.length = 20 := by kernel_rfl
theorem aw2_1 : aw2.1 = 17 := by kernel_rfl
theorem aw2_len : aw2.2.length = 20 := by kernel_rfl
theorem aw2_new : Vlt.newV aw2.2 0 10 = (0, 1, [111, 110, 101]) := by kernel_rfl
/-- A block known whole reads as its cells. -/
theorem Rds.blk {W : World} {l : List HProp} {b n : Nat} {cs : Array Value} {t : TypeId} {fr : Nat × Nat} (hn : cs.size = n) (hb : n ≤ 1000) (h : blkP b (.cells cs t fr) ∈ l) : Rds W l (.slice (some ⟨b, 0, none⟩) n n) cs.toList := by
  intro A w hs
  obtain ⟨F, hr⟩ := hs.tail.mem h
  refine ⟨some ⟨b, 0, none⟩, n, by simp [hn], ⟨by simp [hn], by unfold maxLen; omega⟩, fun j hj => ⟨b, 0, rfl, lt_of_heap hr.1, ?_⟩⟩
  simp only [World.cell?, hr.1, Nat.zero_add]
  simp
theorem one_str3 : ((strB [111, 110, 101]).toList == [111, 110, 101]) = true := by decide +kernel
set_option maxRecDepth 100000 in
theorem cAwake (w : World) : Calls Try.prog 27 #[] w fun e w' => e = .returned (.bool true) ∧ Below w.heap.size w w' := by
  have h0 := Sts.withEmp (Sts.nil w)
  go_enter Try.func27, Try.ntmps27
  go_wp2_with fail
  refine (Sts.call stab0 h0 (wNew 20 (by decide))).mono ?_; rintro e w1 ⟨p, rfl, h1⟩
  have H1 : Hid (Sts w [wordP p 0 (List.replicate 20 0)] w1) := hid (h1.weaken (fun F h => h.word))
  clear h0 h1
  go_wp2_with fail
  refine (cOpen stab0 p 0 (List.replicate 20 0) (by decide) (by decide) H1.out 0 20 (by decide) (by decide)).mono ?_; rintro e w2 ⟨q, rfl, h2⟩
  have H2 : Hid (Sts w [vaultP q p 0 10, wordP p 0 (List.replicate 20 0)] w2) := hid h2
  clear h2 H1
  have kc := fun (w : World) (C : Array Value) (n c : Nat) => Lib.run_convert_bytes_const (P := Try.prog) w 23 5 C n c Try.underlying23 Try.underlying5
  go_wp2_with fail
  have hL2 : ∀ B ∈ [vaultP q p 0 10, wordP p 0 (List.replicate 20 0)], Stable B := stabC (blkP_stable _ _) (stab1 (wordP_stable _ _ _))
  clear kc
  have H3 : Hid (Sts w [vaultP q p 0 10, wordP p 0 (List.replicate 20 0), blkP w2.heap.size (.cells #[.int .u8 111, .int .u8 110, .int .u8 101] 5 (3, 4))] (w2.alloc (.cells #[.int .u8 111, .int .u8 110, .int .u8 101] 5 (3, 4)))) := hid (H2.out.alloc hL2 _).third'
  clear H2 hL2
  generalize w2.alloc (.cells #[.int .u8 111, .int .u8 110, .int .u8 101] 5 (3, 4)) = w3 at *
  generalize w2.heap.size = b1 at *
  refine (cSave (stab1 (blkP_stable _ _)) q p 0 10 0 (List.replicate 20 0) (by decide) (by decide) (by decide) (by decide) H3.out (.slice (some ⟨b1, 0, none⟩) 3 3) [111, 110, 101] ⟨Rds.blk rfl (by decide) (List.mem_cons_of_mem _ (List.mem_singleton.2 rfl)), by decide⟩ (-1)).mono ?_
  rintro e w4 ⟨rfl, h4⟩
  have H4 : Hid (Sts w [vaultP q p 0 10, wordP p 0 aw1.2, blkP b1 (.cells #[.int .u8 111, .int .u8 110, .int .u8 101] 5 (3, 4))] w4) := hid h4
  have e1 : (Vlt.saveV (List.replicate 20 0) 0 10 [111, 110, 101] (-1)).1 = 0 := aw1_1
  rw [e1]
  clear h4 H3 e1
  have kc := fun (w : World) (C : Array Value) (n c : Nat) => Lib.run_convert_bytes_const (P := Try.prog) w 23 5 C n c Try.underlying23 Try.underlying5
  go_wp2_with fail
  have hL4 : ∀ B ∈ [vaultP q p 0 10, wordP p 0 aw1.2], Stable B := stabC (blkP_stable _ _) (stab1 (wordP_stable _ _ _))
  clear kc
  have H5 : Hid (Sts w [vaultP q p 0 10, wordP p 0 aw1.2, blkP w4.heap.size (.cells #[.int .u8 116, .int .u8 119, .int .u8 111] 5 (3, 4))] (w4.alloc (.cells #[.int .u8 116, .int .u8 119, .int .u8 111] 5 (3, 4)))) := hid (Sts.alloc hL4 (H4.out.third.tail) _).third'
  clear H4 hL4
  generalize w4.alloc (.cells #[.int .u8 116, .int .u8 119, .int .u8 111] 5 (3, 4)) = w5 at *
  generalize w4.heap.size = b2 at *
  refine (cSave (stab1 (blkP_stable _ _)) q p 0 10 0 aw1.2 (by decide) (by decide) (by rw [aw1_len]; decide) (by rw [aw1_len]; decide) H5.out (.slice (some ⟨b2, 0, none⟩) 3 3) [116, 119, 111] ⟨Rds.blk rfl (by decide) (List.mem_cons_of_mem _ (List.mem_singleton.2 rfl)), by decide⟩ 1).mono ?_
  rintro e w6 ⟨rfl, h6⟩
  have H6 : Hid (Sts w [vaultP q p 0 10, wordP p 0 aw2.2] w6) := hid (Sts.third h6).tail
  have e2 : (Vlt.saveV aw1.2 0 10 [116, 119, 111] 1).1 = 17 := aw2_1
  rw [e2]
  clear h6 H5 e2
  have hal := aw2_len
  have hw2 := aw2_new
  generalize aw2.2 = W2 at *
  have HB := hid hw2
  have HAL := hid hal
  clear hw2 hal
  go_wp2_with fail
  refine (cLoad stab0 q p 0 10 0 W2 (by decide) (by decide) (by rw [HAL.out]; decide) (by rw [HAL.out]; decide) H6.out).mono ?_
  rintro e w7 ⟨x, he, h7⟩
  rw [HB.out] at he h7
  subst he
  have H7 : Hid (Sts w [vaultP q p 0 10, wordP p 0 W2, rowP 5 1 x 3 (u8s [111, 110, 101])] w7) := hid h7.third'
  have hs := str8 (l := [111, 110, 101]) (w := w7) (v := x) ⟨h7.rd, by decide⟩
  have ho := one_str3
  clear h7 H6
  generalize strB [111, 110, 101] = sb at *
  go_wp2_with fail
  refine (cLoadNil w7).mono ?_
  rintro e w8 ⟨rfl, rfl⟩
  go_wp2_with fail
  refine (cRoom w7 q p 0 10 (Sts.vault H7.out) (by decide)).mono ?_
  rintro e w8 ⟨rfl, rfl⟩
  have hG := hid (cGeneration (stab1 (rowP_stable 5 1 x 3 (u8s [111, 110, 101]))) q p 0 10 0 W2 (by decide) (by decide) (by rw [HAL.out]; decide) (by rw [HAL.out]; decide) H7.out)
  rw [HB.out] at hG
  go_wp2_with fail
  refine hG.out.mono ?_
  rintro e w8 ⟨rfl, h8⟩
  have H8 := hid h8
  clear h8
  go_wp2_with fail
  refine (cOlderNil w8).mono ?_
  rintro e w9 ⟨rfl, rfl⟩
  go_wp2_with fail
  go_ret
  exact ⟨rfl, H8.out.below⟩
end Go.Proofs.Ytdboplkgnnidcaa
