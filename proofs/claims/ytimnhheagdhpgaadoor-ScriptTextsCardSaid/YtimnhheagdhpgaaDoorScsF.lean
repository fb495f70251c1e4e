/- The specification's small functions: digits, numbers, bytes, words. -/
import Derived.Test.YtimnhheagdhpgaaDoorScsD
set_option linter.unusedVariables false
set_option linter.unusedSimpArgs false
namespace Go.Proofs.YtimnhheagdhpgaaDoor
open Go.RowKit Go.Proofs.Num
open Scr (Str bs numV numsV small svcV fltV nameV bytesV oneV fileV faultV orderV tailV flts parseL parseV b8 textV textL svcs svcN fltN ixOf valC digR pairR bytesR rnum magR)
theorem valC_le {c : UInt8} : digR c < 16 := by
  unfold digR
  cases h : valC c with
  | none => simp
  | some n => exact valC_lt h
section
variable {w : World}
set_option maxHeartbeats 2000000 in
theorem cDigit (c : UInt8) : Calls Tryd.prog 58 #[.int .u8 (c.toNat : Int)] w fun e w' => e = .returned (.int .i64 (digR c : Int)) ∧ w' = w := by
  have hc := c.toNat_lt
  have hv : digR c = if 48 ≤ c.toNat ∧ c.toNat ≤ 57 then c.toNat - 48 else if 97 ≤ c.toNat ∧ c.toNat ≤ 102 then c.toNat - 87 else 0 := by
    unfold digR valC
    split
    · rfl
    · split <;> rfl
  obtain ⟨r, hr⟩ : ∃ r : Nat, r = digR c := ⟨_, rfl⟩
  rw [← hr] at hv ⊢
  clear hr
  obtain ⟨n, hn⟩ : ∃ n, n = c.toNat := ⟨_, rfl⟩
  rw [← hn] at hv hc ⊢
  clear hn
  rcases (show n < 48 ∨ (48 ≤ n ∧ n ≤ 57) ∨ (58 ≤ n ∧ n < 97) ∨ (97 ≤ n ∧ n ≤ 102) ∨ 103 ≤ n by omega) with h | ⟨h1, h2⟩ | ⟨h1, h2⟩ | ⟨h1, h2⟩ | h
  · rw [if_neg (by omega), if_neg (by omega)] at hv
    subst hv
    go_enter Tryd.func58, Tryd.ntmps58
    go_wp2_with fail
    all_goals (go_ret; exact ⟨rfl, rfl⟩)
  · rw [if_pos ⟨h1, h2⟩] at hv
    obtain ⟨m, rfl⟩ : ∃ m, n = 48 + m := ⟨n - 48, by omega⟩
    rw [show 48 + m - 48 = m by omega] at hv
    subst hv
    have hm : r < 10 := by omega
    go_enter Tryd.func58, Tryd.ntmps58
    go_wp2_with fail
    all_goals (go_ret; exact ⟨by go_num, rfl⟩)
  · rw [if_neg (by omega), if_neg (by omega)] at hv
    subst hv
    go_enter Tryd.func58, Tryd.ntmps58
    go_wp2_with fail
    all_goals (go_ret; exact ⟨rfl, rfl⟩)
  · rw [if_neg (by omega), if_pos ⟨h1, h2⟩] at hv
    obtain ⟨m, rfl⟩ : ∃ m, n = 97 + m := ⟨n - 97, by omega⟩
    rw [show 97 + m - 87 = m + 10 by omega] at hv
    subst hv
    go_enter Tryd.func58, Tryd.ntmps58
    go_wp2_with fail
    all_goals (go_ret; exact ⟨by go_num, rfl⟩)
  · rw [if_neg (by omega), if_neg (by omega)] at hv
    subst hv
    go_enter Tryd.func58, Tryd.ntmps58
    go_wp2_with fail
    all_goals (go_ret; exact ⟨rfl, rfl⟩)
theorem magR_take (l : Str) (k : Nat) (h : k < l.length) : magR 0 (l.take (k + 1)) = if 48 ≤ (l.getD k 0).toNat ∧ (l.getD k 0).toNat ≤ 57 then magR 0 (l.take k) * 10 + (((l.getD k 0).toNat : Int) - 48) else magR 0 (l.take k) := by
  have e : l.take (k + 1) = l.take k ++ [l.getD k 0] := by
    rw [List.take_succ_eq_append_getElem h, List.getD_eq_getElem?_getD, List.getElem?_eq_getElem h]; rfl
  rw [e]
  simp only [magR, List.foldl_append, List.foldl_cons, List.foldl_nil]
theorem magR_bound (l : Str) : ∀ k : Nat, 0 ≤ magR 0 (l.take k) ∧ magR 0 (l.take k) < 10 ^ k := by
  intro k
  induction k with
  | zero => simp [magR]
  | succ k ih =>
    by_cases h : k < l.length
    · rw [magR_take l k h, Int.pow_succ]
      split <;> omega
    · rw [List.take_of_length_le (by omega)]
      rw [List.take_of_length_le (by omega)] at ih
      rw [Int.pow_succ]; omega
set_option maxHeartbeats 4000000 in
theorem cNumberR (S : ByteArray) (hs : S.size < 1000000) : Calls Tryd.prog 39 #[.string S] w fun e w' => e = .returned (.int .i64 (rnum (bs S))) ∧ w' = w := by
  obtain ⟨N, hN⟩ : ∃ N, N = (bs S).length := ⟨_, rfl⟩
  have hz : S.size = N := by rw [Scr.bs_size, hN]
  have hix := hid (run_byte S)
  rw [← hN] at hix
  have HN := hid hN
  clear hN
  obtain ⟨r, hr⟩ : ∃ r, r = rnum (bs S) := ⟨_, rfl⟩
  rw [← hr]
  have HR := hid hr
  clear hr
  go_enter Tryd.func39, Tryd.ntmps39
  go_wp2_with fail
  go_loopw [3, 4] (fun n i wr => ∃ (k : Nat) (m : Int), k ≤ 15 ∧ k ≤ N ∧ i = .int .i64 k ∧ n = .int .i64 m ∧ (0 ≤ m ∧ m < 1000000000000000) ∧ Hid (m = magR 0 ((bs S).take k)) ∧ wr = w) (fun _ i _ => 15 - (intOf i).toNat)
  case atStart => exact ⟨0, 0, by omega, by omega, rfl, rfl, by omega, hid rfl, rfl⟩
  case round =>
    obtain ⟨k, m, hk15, hk, rfl, rfl, ⟨hm0, hm1⟩, HM, rfl⟩ := hrel
    by_cases hlt : k < N ∧ k < 15
    · obtain ⟨hlt, hlt15⟩ := hlt
      have hbn := magR_bound (bs S) (k + 1)
      have hst := magR_take (bs S) k (by rw [← HN.out]; exact hlt)
      rw [← HM.out] at hst
      obtain ⟨c, hc⟩ : ∃ c : Nat, c = ((bs S).getD k 0).toNat := ⟨_, rfl⟩
      have hc256 : c < 256 := by rw [hc]; exact UInt8.toNat_lt _
      have hx := fun x => hix.out k hlt x
      rw [← hc] at hx hst
      clear hc
      have hb15 : magR 0 ((bs S).take (k + 1)) < 1000000000000000 := by
        have h1 : (10 : Int) ^ (k + 1) ≤ 10 ^ 15 := by
          have : (10 : Nat) ^ (k + 1) ≤ 10 ^ 15 := Nat.pow_le_pow_right (by decide) (by omega)
          have h2 := Int.ofNat_le.2 this
          simpa using h2
        have h3 : (10 : Int) ^ 15 = 1000000000000000 := by decide
        omega
      by_cases hb : 48 ≤ c ∧ c ≤ 57
      · rw [if_pos hb] at hst
        obtain ⟨h1, h2⟩ := hb
        obtain ⟨d, rfl⟩ : ∃ d, c = 48 + d := ⟨c - 48, by omega⟩
        have hd : d < 10 := by omega
        rw [show (((48 + d : Nat) : Int) - 48) = (d : Int) by omega] at hst
        have hb16 : m * 10 + (d : Int) < 1000000000000000 := by rw [← hst]; exact hb15
        have HST := hid hst
        clear hst hbn hb15
        go_wp2_with fail
        all_goals (go_roundw
                   case rel => exact ⟨k + 1, m * 10 + d, by omega, by omega, by simp, by go_num, by omega, hid HST.out.symm, trivial⟩
                   case measure => simp [intOf]; omega)
      · rw [if_neg hb] at hst
        have HST := hid hst
        have HB := hid hb
        clear hst hbn hb15 hb
        rcases (show c < 48 ∨ (48 ≤ c ∧ 57 < c) by have := HB.out; omega) with h1 | ⟨h1, h2⟩
        · go_wp2_with fail
          all_goals (go_roundw
                     case rel => exact ⟨k + 1, m, by omega, by omega, by simp, rfl, by omega, hid HST.out.symm, trivial⟩
                     case measure => simp [intOf]; omega)
        · go_wp2_with fail
          all_goals (go_roundw
                     case rel => exact ⟨k + 1, m, by omega, by omega, by simp, rfl, by omega, hid HST.out.symm, trivial⟩
                     case measure => simp [intOf]; omega)
    · have hmm : m = magR 0 ((bs S).take 15) := by
        rw [HM.out]
        by_cases h15 : k = 15
        · rw [h15]
        · rw [List.take_of_length_le (show (bs S).length ≤ k by rw [← HN.out]; omega), List.take_of_length_le (show (bs S).length ≤ 15 by rw [← HN.out]; omega)]
      skip
      have HL := hid hlt
      clear hlt
      have HRM : Hid (r = if (bs S).head? = some 45 then -m else m) := hid (by rw [HR.out, rnum, ← hmm])
      clear hmm HM HR
      rcases (show N = 0 ∨ (0 < N ∧ k < N ∧ 15 ≤ k) ∨ (0 < N ∧ N ≤ k) by have := HL.out; omega) with h0 | ⟨h0, h1, h2⟩ | ⟨h0, h1⟩
      · have hS : S = ⟨#[]⟩ := by
          rw [← Scr.mk_bs S, List.length_eq_zero_iff.1 (show (bs S).length = 0 by rw [← HN.out]; exact h0)]
        have hm : r = m := by rw [HRM.out, hS, if_neg (by decide)]
        clear HRM HL hix
        subst hm hS h0
        have hk0 : k = 0 := by omega
        subst hk0
        go_wp2_with fail
        all_goals (go_ret; exact ⟨rfl, rfl⟩)
      all_goals (
        have hne : (S.toList == ([] : List UInt8)) = false := by
          rw [ByteArray.toList_eq]
          simp only [beq_eq_false_iff_ne]
          intro e
          have := HN.out
          rw [show (bs S) = [] from e] at this
          simp at this
          omega
        have hne2 : ¬ (S.data.toList = []) := fun e => by
          have := HN.out
          rw [show (bs S) = [] from e] at this
          simp at this
          omega
        have hx : ∀ x, (Instr.index 9 (.string S) (.int .i64 0)).run Tryd.prog x = .ok (.int .u8 (((bs S).getD 0 0).toNat : Int)) x := fun x => hix.out 0 h0 x
        have hh : (bs S).head? = some ((bs S).getD 0 0) := by
          cases h : bs S with
          | nil => exact absurd h hne2
          | cons a b => rfl
        obtain ⟨c, hc⟩ : ∃ c : Nat, c = ((bs S).getD 0 0).toNat := ⟨_, rfl⟩
        rw [← hc] at hx
        have h45 : (bs S).head? = some 45 ↔ c = 45 := by
          rw [hh, hc]
          constructor
          · intro e; injection e with e; rw [e]; rfl
          · intro e; rw [show (bs S).getD 0 0 = 45 from UInt8.toNat_inj.1 e]
        by_cases hc45 : c = 45
        · have hm : r = -m := by rw [HRM.out, if_pos (h45.2 hc45)]
          clear HRM h45 hh hc HL
          subst hm hc45
          go_wp2_with fail
          all_goals (go_ret; exact ⟨by first | rfl | go_num, rfl⟩)
        · have hm : r = m := by rw [HRM.out, if_neg (fun e => hc45 (h45.1 e))]
          have hcn : ((c : Int) == 45) = false := by simp; omega
          have hcn2 : ¬ ((c : Int) = 45) := by omega
          clear HRM h45 hh hc HL
          subst hm
          go_wp2_with fail
          all_goals (go_ret; exact ⟨rfl, rfl⟩))
end
end Go.Proofs.YtimnhheagdhpgaaDoor
