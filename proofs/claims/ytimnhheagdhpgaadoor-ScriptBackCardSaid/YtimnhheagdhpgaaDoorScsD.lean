/- The specification's small functions: names. -/
import Derived.Test.YtimnhheagdhpgaaDoorScsC
set_option linter.unusedVariables false
set_option linter.unusedSimpArgs false
namespace Go.Proofs.YtimnhheagdhpgaaDoor
open Go.RowKit Go.Proofs.Num
open Scr (Str bs numV numsV small svcV fltV nameV bytesV oneV fileV faultV orderV tailV flts parseL parseV b8 textV textL svcs svcN fltN ixOf)
section
variable {w : World}
set_option maxHeartbeats 2000000 in
theorem cRName (S : ByteArray) (hs : S.size ≤ 281474976710656) : Calls Tryd.prog 30 #[.string S] w fun e w' => e = .returned (.bool (nameV (bs S))) ∧ w' = w := by
  obtain ⟨N, hN⟩ : ∃ N, N = (bs S).length := ⟨_, rfl⟩
  have hz : S.size = N := by rw [Scr.bs_size, hN]
  have hix := hid (run_byte S)
  rw [← hN] at hix
  have HN := hid hN
  clear hN
  obtain ⟨r, hr⟩ : ∃ r, r = nameV (bs S) := ⟨_, rfl⟩
  rw [← hr]
  have HR := hid hr
  clear hr
  go_enter Tryd.func30, Tryd.ntmps30
  go_wp2_with fail
  go_loopw [3] (fun i wr => ∃ k : Nat, k ≤ N ∧ i = .int .i64 k ∧ Hid (∀ j, j < k → 33 ≤ ((bs S).getD j 0).toNat ∧ ((bs S).getD j 0).toNat ≤ 126) ∧ wr = w) (fun i _ => N - (intOf i).toNat)
  case atStart => exact ⟨0, by omega, rfl, hid (fun j hj => by omega), rfl⟩
  case round =>
    obtain ⟨k, hk, rfl, HA, rfl⟩ := hrel
    by_cases hlt : k < N
    · obtain ⟨c, hc⟩ : ∃ c : Nat, c = ((bs S).getD k 0).toNat := ⟨_, rfl⟩
      have hx := fun x => hix.out k hlt x
      rw [← hc] at hx
      have HC := hid hc
      clear hc
      by_cases hb : 33 ≤ c ∧ c ≤ 126
      · obtain ⟨h1, h2⟩ := hb
        go_wp2_with fail
        go_roundw
        case rel => exact ⟨k + 1, by omega, by simp [intOf], hid (fun j hj => by
          by_cases e : j = k
          · rw [e, ← HC.out]; exact ⟨h1, h2⟩
          · exact HA.out j (by omega)), trivial⟩
        case measure => simp [intOf]; omega
      · have HB := hid hb
        clear hb
        have hf : r = false := by
          rw [HR.out]
          exact name_no (by rw [← HN.out]; exact hlt) (by rw [← HC.out]; exact HB.out)
        clear HR
        subst hf
        rcases (show c < 33 ∨ (33 ≤ c ∧ 126 < c) by have := HB.out; omega) with h1 | ⟨h1, h2⟩
        · go_wp2_with fail
          all_goals (go_ret; trivial)
        · go_wp2_with fail
          all_goals (go_ret; trivial)
    · have hkN : k = N := by omega
      subst hkN
      have hf : r = decide (1 ≤ k ∧ k ≤ 64) := by
        rw [HR.out, name_all (by rw [← HN.out]; exact HA.out), ← HN.out]
      clear HR HA HN hix hlt hk
      subst hf
      go_wp2_with fail
      all_goals (go_ret; refine ⟨ret_bool ?_, rfl⟩; rw [Bool.eq_iff_iff]; simp; omega)
set_option maxRecDepth 100000 in
set_option maxHeartbeats 8000000 in
theorem cRFaults : Calls Tryd.prog 32 #[] w fun e w' => e = .returned (.slice (some ⟨w.heap.size, 0, none⟩) 7 7) ∧ New w w' 9 (.slice (some ⟨w.heap.size, 0, none⟩) 7 7) (strsV flts) := by
  go_enter Tryd.func32, Tryd.ntmps32
  go_wp2_with fail
  go_ret
  refine ⟨rfl, ⟨⟨rfl, Or.inr ⟨_, _, _, rfl, Nat.le_refl _, heap_new w _ rfl, Nat.le_refl _, by decide, rfl, ?_⟩⟩, (Below.refl _ _).alloc (Nat.le_refl _) _⟩⟩
  kernel_rfl
set_option maxRecDepth 100000 in
set_option maxHeartbeats 8000000 in
theorem cRNames : Calls Tryd.prog 57 #[] w fun e w' => e = .returned (.slice (some ⟨w.heap.size, 0, none⟩) 28 28) ∧ New w w' 9 (.slice (some ⟨w.heap.size, 0, none⟩) 28 28) (strsV svcs) := by
  go_enter Tryd.func57, Tryd.ntmps57
  go_wp2_with fail
  go_ret
  refine ⟨rfl, ⟨⟨rfl, Or.inr ⟨_, _, _, rfl, Nat.le_refl _, heap_new w _ rfl, Nat.le_refl _, by decide, rfl, ?_⟩⟩, (Below.refl _ _).alloc (Nat.le_refl _) _⟩⟩
  kernel_rfl
set_option maxRecDepth 100000 in
set_option maxHeartbeats 8000000 in
theorem cRService (S : ByteArray) : Calls Tryd.prog 40 #[.string S] w fun e w' => e = .returned (.int .i64 (svcV (bs S))) ∧ Below w.heap.size w w' := by
  obtain ⟨r, hr⟩ : ∃ r, r = svcV (bs S) := ⟨_, rfl⟩
  rw [← hr]
  have HR := hid hr
  clear hr
  go_enter Tryd.func40, Tryd.ntmps40
  go_wp2_with (go_at_call 57; refine (cRNames).mono ?_; rintro e w1 ⟨rfl, hn⟩; have HN := hid (show Sts w [rowP 9 1 (.slice (some ⟨w.heap.size, 0, none⟩) 28 28) 28 (strsV svcs)] w1 from Sts.new stab0 (Sts.nil w) hn); clear hn)
  obtain ⟨g, hg⟩ : ∃ g, g = w.heap.size := ⟨_, rfl⟩
  rw [← hg] at HN ⊢
  clear hg
  go_loopw [4] (fun i wr => ∃ k : Nat, k ≤ 28 ∧ i = .int .i64 k ∧ Hid (∀ j, j < k → svcs.getD j [] ≠ bs S) ∧ wr = w1) (fun i _ => 28 - (intOf i).toNat)
  case atStart => exact ⟨0, by omega, rfl, hid (fun j h1 => by omega), rfl⟩
  case round =>
    obtain ⟨k, hk, rfl, HI, rfl⟩ := hrel
    by_cases hlt : k < 28
    · obtain ⟨nm, hnm⟩ : ∃ nm, nm = svcs.getD k [] := ⟨_, rfl⟩
      have hcell := Sts.rowCell HN.out k hlt (.string ⟨nm.toArray⟩) (by
        have hl8 : k < svcs.length := hlt
        rw [show strsV svcs = svcs.map strV from rfl, List.getElem?_map, List.getElem?_eq_getElem hl8, hnm, List.getD_eq_getElem?_getD, List.getElem?_eq_getElem hl8]
        rfl)
      have heq := str_eq nm S
      rw [ByteArray.toList_mk] at heq
      have HNM := hid hnm
      clear hnm
      obtain ⟨b, hb⟩ : ∃ b, b = decide (nm = bs S) := ⟨_, rfl⟩
      rw [← hb] at heq
      cases b with
      | true =>
        have hn : nm = bs S := of_decide_eq_true hb.symm
        have hrk : r = (k : Int) + 1 := by
          rw [HR.out, svcV, ix_first svcs (bs S) 1 k (fun j hj => HI.out j hj) hlt (by rw [← HNM.out, hn])]
          omega
        clear HR HI hb hn
        subst hrk
        go_wp2_with fail
        all_goals (go_ret; exact ⟨rfl, HN.out.below⟩)
      | false =>
        have hn : nm ≠ bs S := of_decide_eq_false hb.symm
        have HI2 := hid (show ∀ j, j < k + 1 → svcs.getD j [] ≠ bs S from fun j h2 => by
          by_cases e : j = k
          · rw [e, ← HNM.out]; exact hn
          · exact HI.out j (by omega))
        clear hb hn
        go_wp2_with fail
        all_goals (go_roundw
                   case rel => exact ⟨k + 1, by omega, by simp, HI2, trivial⟩
                   case measure => simp [intOf]; omega)
    · have hk28 : k = 28 := by omega
      subst hk28
      have hr0 : r = 0 := by
        rw [HR.out, svcV, ix_none svcs (bs S) 1 (fun j hj => HI.out j hj)]
        rfl
      clear HR HI
      subst hr0
      go_wp2_with fail
      all_goals (go_ret; exact ⟨rfl, HN.out.below⟩)
end
end Go.Proofs.YtimnhheagdhpgaaDoor
