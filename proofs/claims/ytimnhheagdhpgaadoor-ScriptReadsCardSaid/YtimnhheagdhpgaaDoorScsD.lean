/- The specification's small functions: numbers. The specification's small functions: names. -/
import Derived.Test.YtimnhheagdhpgaaDoorScsB
set_option linter.unusedVariables false
set_option linter.unusedSimpArgs false
namespace Go.Proofs.YtimnhheagdhpgaaDoor
open Go.RowKit Go.Proofs.Num
open Scr (Str bs numV numsV small svcV fltV nameV bytesV oneV fileV faultV orderV tailV flts parseL parseV b8 textV textL)
/-- Digits under way: of u, k is left, s is written. -/
def DigI (u : Nat) (k : Int) (s : Str) : Prop := if s = [] then k.natAbs = u else if k = 0 then Lib.decDigits u = s else Lib.decDigits u = Lib.decDigits k.natAbs ++ s
theorem DigI.start (n : Int) : DigI n.natAbs n [] := by simp [DigI]
theorem DigI.step {u : Nat} {k : Int} {s : Str} {c : UInt8} (h : DigI u k s) (hc : c.toNat = 48 + k.natAbs % 10) (hgo : k ≠ 0 ∨ s = []) : DigI u (k.tdiv 10) (c :: s) := by
  have hcu : UInt8.ofNat (48 + k.natAbs % 10) = c := by
    apply UInt8.toNat_inj.1
    rw [UInt8.toNat_ofNat', hc]; omega
  have hq : (k.tdiv 10).natAbs = k.natAbs / 10 := by rw [Int.natAbs_tdiv]; rfl
  have hz : k.tdiv 10 = 0 ↔ k.natAbs < 10 := by rw [← Int.natAbs_eq_zero, hq]; omega
  have key : Lib.decDigits k.natAbs = if k.natAbs < 10 then [c] else Lib.decDigits (k.natAbs / 10) ++ [c] := by
    rw [Lib.decDigits]
    by_cases h10 : k.natAbs < 10
    · rw [dif_pos h10, if_pos h10, ← hcu, Nat.mod_eq_of_lt h10]
    · rw [dif_neg h10, if_neg h10, ← hcu]
  have hu : Lib.decDigits u = Lib.decDigits k.natAbs ++ s := by
    unfold DigI at h
    by_cases hs : s = []
    · rw [if_pos hs] at h; rw [← h, hs, List.append_nil]
    · rw [if_neg hs] at h
      rcases hgo with hk | hk
      · rw [if_neg hk] at h; exact h
      · exact absurd hk hs
  unfold DigI
  rw [if_neg (by simp)]
  by_cases h10 : k.natAbs < 10
  · rw [if_pos (hz.2 h10), hu, key, if_pos h10]; rfl
  · rw [if_neg (fun e => h10 (hz.1 e)), hu, key, if_neg h10, hq, List.append_assoc]; rfl
theorem DigI.stop {u : Nat} {s : Str} (h : DigI u 0 s) (hs : s ≠ []) : s = Lib.decDigits u := by
  unfold DigI at h; rw [if_neg hs, if_pos rfl] at h; exact h.symm
theorem DigI.len {u : Nat} {k : Int} {s : Str} (h : DigI u k s) : s.length ≤ (Lib.decDigits u).length := by
  unfold DigI at h
  by_cases hs : s = []
  · rw [hs]; exact Nat.zero_le _
  · rw [if_neg hs] at h
    by_cases hk : k = 0
    · rw [if_pos hk] at h; rw [h]; exact Nat.le_refl _
    · rw [if_neg hk] at h; rw [h]; simp
theorem dec_len64 (u : Nat) (h : u ≤ 9223372036854775808) : (Lib.decDigits u).length ≤ 20 := by
  rw [Lib.decDigits_length]; exact nDig 19 u (by omega)
theorem newRow1 {w : World} (x : Value) (t : TypeId) : New w (w.alloc (.cells #[x] t)) t (.slice (some ⟨w.heap.size, 0, none⟩) 1 1) [x] :=
  ⟨⟨rfl, Or.inr ⟨_, _, _, rfl, Nat.le_refl _, heap_new w _ rfl, Nat.le_refl _, by decide, rfl, rfl⟩⟩, (Below.refl _ _).alloc (Nat.le_refl _) _⟩
/-- One byte as a string. -/
theorem conv_one (x : World) (c : UInt8) : (convert 22 9 (.slice (some ⟨x.heap.size, 0, none⟩) 1 1)).run Tryd.prog (x.alloc (.cells #[.int .u8 (c.toNat : Int)] 5)) = .ok (.string ⟨#[c]⟩) (x.alloc (.cells #[.int .u8 (c.toNat : Int)] 5)) := by
  have h := (newRow1 (w := x) (.int .u8 (c.toNat : Int)) 5).rd
  exact conv_bytes (b := [c]) h
section
variable {w : World}
theorem cSmall (n : Int) : Calls Tryd.prog 28 #[.int .i64 n] w fun e w' => e = .returned (.bool (small n)) ∧ w' = w := by
  obtain ⟨r, hr⟩ : ∃ r, r = small n := ⟨_, rfl⟩
  rw [← hr]
  unfold small at hr
  rcases (show n < -1099511627776 ∨ (-1099511627776 ≤ n ∧ n ≤ 1099511627776) ∨ (-1099511627776 ≤ n ∧ 1099511627776 < n) by omega) with h | ⟨h1, h2⟩ | ⟨h1, h2⟩
  · rw [decide_eq_false (by omega)] at hr
    subst hr
    have f1 : decide (-1099511627776 ≤ n) = false := decide_eq_false (by omega)
    go_enter Tryd.func28, Tryd.ntmps28
    go_wp2_with fail
    all_goals (go_ret; exact ⟨rfl, rfl⟩)
  · rw [decide_eq_true ⟨h1, h2⟩] at hr
    subst hr
    have f1 : decide (-1099511627776 ≤ n) = true := decide_eq_true h1
    have f2 : decide (n ≤ 1099511627776) = true := decide_eq_true h2
    go_enter Tryd.func28, Tryd.ntmps28
    go_wp2_with fail
    all_goals (go_ret; exact ⟨rfl, rfl⟩)
  · rw [decide_eq_false (by omega)] at hr
    subst hr
    have f1 : decide (-1099511627776 ≤ n) = true := decide_eq_true h1
    have f2 : decide (n ≤ 1099511627776) = false := decide_eq_false (by omega)
    go_enter Tryd.func28, Tryd.ntmps28
    go_wp2_with fail
    all_goals (go_ret; exact ⟨rfl, rfl⟩)
set_option maxRecDepth 100000 in
set_option maxHeartbeats 4000000 in
theorem cDigits (n : Int) (hn : i64 n) : Calls Tryd.prog 27 #[.int .i64 n] w fun e w' => ∃ I, e = .returned (.string I) ∧ (bs I = Lib.itoa n ∧ I.size ≤ 21) ∧ Below w.heap.size w w' := by
  obtain ⟨hn0, hn1⟩ := hn
  go_enter Tryd.func27, Tryd.ntmps27
  go_wp2_with fail
  go_loopw [3, 4] (fun v k wr => ∃ (s : ByteArray) (kk : Int), v = .string s ∧ k = .int .i64 kk ∧ (-9223372036854775808 ≤ kk ∧ kk ≤ 9223372036854775807) ∧ s.size ≤ 20 ∧ Hid (DigI n.natAbs kk (bs s)) ∧ Hid (Below w.heap.size w wr)) (fun v k _ => (intOf k).natAbs + (match v with | .string s => if s.size = 0 then 1 else 0 | _ => 0))
  case atStart => exact ⟨⟨#[]⟩, n, rfl, rfl, ⟨hn0, hn1⟩, Nat.zero_le _, hid (DigI.start n), hid (Below.refl _ _)⟩
  case round =>
    obtain ⟨s, k, rfl, rfl, ⟨hk0, hk1⟩, hs, HI, HB⟩ := hrel
    have hs2 : ¬ 9223372036854775807 < 1 + s.size := by omega
    have hs3 : ¬ 9223372036854775807 < s.size + 1 := by omega
    have go : ∀ (k' : Int) (c : UInt8) (x : World), k' = k.tdiv 10 → c.toNat = 48 + k.natAbs % 10 → (k ≠ 0 ∨ bs s = []) → Below wr.heap.size wr x → (∃ (s1 : ByteArray) (kk : Int), Value.string (⟨#[c]⟩ ++ s) = .string s1 ∧ Value.int .i64 k' = .int .i64 kk ∧ (-9223372036854775808 ≤ kk ∧ kk ≤ 9223372036854775807) ∧ s1.size ≤ 20 ∧ Hid (DigI n.natAbs kk (bs s1)) ∧ Hid (Below w.heap.size w x)) := fun k' c x hk' hc hgo hx => by
      subst hk'
      have h1 := (HI.out).step hc hgo
      have h2 := h1.len
      have h3 := dec_len64 n.natAbs (by omega)
      have hb : bs (⟨#[c]⟩ ++ s) = c :: bs s := by rw [bs_app]; rfl
      refine ⟨_, _, rfl, rfl, ?_, by rw [Scr.bs_size, hb]; omega, hid (by rw [hb]; exact h1), hid (below_step HB.out hx)⟩
      have h5 : (k.tdiv 10).natAbs = k.natAbs / 10 := by rw [Int.natAbs_tdiv]; rfl
      omega
    have GO := hid go
    have hm1 : ∀ c : UInt8, ¬ ((⟨#[c]⟩ ++ s : ByteArray).size = 0) := fun c => by rw [ByteArray.size_append]; show ¬ (1 + s.size = 0); omega
    have HM1 := hid hm1
    clear go hm1
    by_cases hz : k = 0
    · subst hz
      by_cases hse : s = ⟨#[]⟩
      · subst hse
        have hcv := conv_one wr 48
        rw [show (((48 : UInt8).toNat : Nat) : Int) = 48 from rfl] at hcv
        go_wp2_with fail
        all_goals (go_roundw
                   case rel => exact GO.out 0 48 _ (by decide) (by decide) (Or.inr rfl) ((Below.refl _ _).alloc (Nat.le_refl _) _)
                   case measure => first | decide | (simp [intOf]; done) | (simp [intOf]; decide))
      · have hI : bs s = Lib.decDigits n.natAbs := (HI.out).stop (fun e => hse (by rw [← Scr.mk_bs s, e]))
        have hse3 : (s.toList == ([] : List UInt8)) = false := by
          rw [ByteArray.toList_eq]
          simp only [beq_eq_false_iff_ne]
          intro e
          exact hse (by rw [← Scr.mk_bs s]; show (⟨(s.data.toList).toArray⟩ : ByteArray) = _; rw [e])
        have HII := hid hI
        have hse4 : ¬ (s.data.toList = []) := fun e => hse (by rw [← Scr.mk_bs s]; show (⟨(s.data.toList).toArray⟩ : ByteArray) = _; rw [e])
        clear hI
        by_cases hneg : n < 0
        · have f1 : decide (n < 0) = true := decide_eq_true hneg
          go_wp2_with fail
          all_goals (
            go_ret
            refine ⟨_, rfl, ⟨?_, ?_⟩, HB.out⟩
            · rw [bs_app, HII.out]; unfold Lib.itoa; rw [if_pos hneg]; rfl
            · rw [ByteArray.size_append]; show 1 + s.size ≤ 21; omega)
        · have f1 : decide (n < 0) = false := decide_eq_false hneg
          go_wp2_with fail
          all_goals (
            go_ret
            refine ⟨_, rfl, ⟨?_, by omega⟩, HB.out⟩
            rw [HII.out]; unfold Lib.itoa; rw [if_neg (by omega)]; congr 1; omega)
    · have hk2 : (k == 0) = false := by simp [hz]
      by_cases hneg : k < 0
      · obtain ⟨m, hm⟩ : ∃ m : Nat, (m : Int) = -k := ⟨(-k).toNat, by omega⟩
        have hkm : k = -(m : Int) := by omega
        have hd : Int.tmod k 10 = -((m : Int) % 10) := by rw [hkm, Int.neg_tmod, Int.tmod_eq_emod_of_nonneg (by omega)]
        have hq : Int.tdiv k 10 = -((m : Int) / 10) := by rw [hkm, Int.neg_tdiv, Int.tdiv_eq_ediv_of_nonneg (by omega)]
        obtain ⟨c, hc⟩ : ∃ c : UInt8, c.toNat = 48 + m % 10 := ⟨UInt8.ofNat (48 + m % 10), by rw [UInt8.toNat_ofNat']; omega⟩
        have hcv := conv_one wr c
        rw [show ((c.toNat : Nat) : Int) = 48 + (m : Int) % 10 by rw [hc]; omega] at hcv
        obtain ⟨q, hqe⟩ : ∃ q : Int, q = (m : Int) / 10 := ⟨_, rfl⟩
        have hq3 : 0 ≤ q ∧ q ≤ 922337203685477580 := by omega
        rw [← hqe] at hq
        have HQE := hid hqe
        clear hqe
        obtain ⟨hq4, hq5⟩ := hq3
        have HQ := hid hq
        have HC := hid hc
        obtain ⟨d, hd2⟩ : ∃ d : Int, d = (m : Int) % 10 := ⟨_, rfl⟩
        have hd3 : 0 ≤ d ∧ d < 10 := by omega
        rw [← hd2] at hd hcv
        clear hc
        have HD := hid hd2
        clear hd2 hkm
        have HM := hid hm
        clear hm
        obtain ⟨hd4, hd5⟩ := hd3
        by_cases hd0 : d = 0
        · subst hd0
          rw [show (-(0 : Int)) = 0 from rfl] at hd
          rw [show (48 : Int) + 0 = 48 from rfl] at hcv
          go_wp2_with fail
          all_goals (go_roundw
                     case rel => exact GO.out _ c _ (by first | rfl | exact HQ.out.symm) (by rw [HC.out]; have := HM.out; omega) (Or.inl hz) ((Below.refl _ _).alloc (Nat.le_refl _) _)
                     case measure => simp only [intOf, HM1.out, if_false]; have := HM.out; have := HQ.out; have := HQE.out; omega)
        · have f1 : -d < 0 := by omega
          go_wp2_with fail
          all_goals (go_roundw
                     case rel => exact GO.out _ c _ (by first | rfl | exact HQ.out.symm) (by rw [HC.out]; have := HM.out; omega) (Or.inl hz) ((Below.refl _ _).alloc (Nat.le_refl _) _)
                     case measure => simp only [intOf, HM1.out, if_false]; have := HM.out; have := HQ.out; have := HQE.out; omega)
      · have hd : Int.tmod k 10 = k % 10 := Int.tmod_eq_emod_of_nonneg (by omega)
        have hq : Int.tdiv k 10 = k / 10 := Int.tdiv_eq_ediv_of_nonneg (by omega)
        obtain ⟨c, hc⟩ : ∃ c : UInt8, c.toNat = 48 + k.natAbs % 10 := ⟨UInt8.ofNat (48 + k.natAbs % 10), by rw [UInt8.toNat_ofNat']; omega⟩
        have hcv := conv_one wr c
        rw [show ((c.toNat : Nat) : Int) = 48 + k % 10 by rw [hc]; omega] at hcv
        have HC := hid hc
        have HQ := hid hq
        clear hc
        go_wp2_with fail
        all_goals (go_roundw
                   case rel => exact GO.out _ c _ (by first | rfl | exact HQ.out.symm) HC.out (Or.inl hz) ((Below.refl _ _).alloc (Nat.le_refl _) _)
                   case measure => simp only [intOf, HM1.out, if_false]; omega)
end
end Go.Proofs.YtimnhheagdhpgaaDoor
namespace Go.Proofs.YtimnhheagdhpgaaDoor
open Go.RowKit Go.Proofs.Num
open Scr (Str bs numV numsV small svcV fltV nameV bytesV oneV fileV faultV orderV tailV flts parseL parseV b8 textV textL svcs svcN fltN ixOf)
section
variable {w : World}
set_option maxHeartbeats 2000000 in
theorem cRName (S : ByteArray) (hs : S.size ≤ 281474976710656) : Calls Tryd.prog 30 #[.string S] w fun e w' => e = .returned (.bool (nameV (bs S))) ∧ w' = w := by
  obtain ⟨N, hN⟩ : ∃ N, N = (bs S).length := ⟨_, rfl⟩
  have hz : S.size = N := by rw [Scr.bs_size, hN]
  have hix := hid (run_byte S)
  rw [← hN] at hix
  have HN := hid hN
  clear hN
  obtain ⟨r, hr⟩ : ∃ r, r = nameV (bs S) := ⟨_, rfl⟩
  rw [← hr]
  have HR := hid hr
  clear hr
  go_enter Tryd.func30, Tryd.ntmps30
  go_wp2_with fail
  go_loopw [3] (fun i wr => ∃ k : Nat, k ≤ N ∧ i = .int .i64 k ∧ Hid (∀ j, j < k → 33 ≤ ((bs S).getD j 0).toNat ∧ ((bs S).getD j 0).toNat ≤ 126) ∧ wr = w) (fun i _ => N - (intOf i).toNat)
  case atStart => exact ⟨0, by omega, rfl, hid (fun j hj => by omega), rfl⟩
  case round =>
    obtain ⟨k, hk, rfl, HA, rfl⟩ := hrel
    by_cases hlt : k < N
    · obtain ⟨c, hc⟩ : ∃ c : Nat, c = ((bs S).getD k 0).toNat := ⟨_, rfl⟩
      have hx := fun x => hix.out k hlt x
      rw [← hc] at hx
      have HC := hid hc
      clear hc
      by_cases hb : 33 ≤ c ∧ c ≤ 126
      · obtain ⟨h1, h2⟩ := hb
        go_wp2_with fail
        go_roundw
        case rel => exact ⟨k + 1, by omega, by simp [intOf], hid (fun j hj => by
          by_cases e : j = k
          · rw [e, ← HC.out]; exact ⟨h1, h2⟩
          · exact HA.out j (by omega)), trivial⟩
        case measure => simp [intOf]; omega
      · have HB := hid hb
        clear hb
        have hf : r = false := by
          rw [HR.out]
          exact name_no (by rw [← HN.out]; exact hlt) (by rw [← HC.out]; exact HB.out)
        clear HR
        subst hf
        rcases (show c < 33 ∨ (33 ≤ c ∧ 126 < c) by have := HB.out; omega) with h1 | ⟨h1, h2⟩
        · go_wp2_with fail
          all_goals (go_ret; trivial)
        · go_wp2_with fail
          all_goals (go_ret; trivial)
    · have hkN : k = N := by omega
      subst hkN
      have hf : r = decide (1 ≤ k ∧ k ≤ 64) := by
        rw [HR.out, name_all (by rw [← HN.out]; exact HA.out), ← HN.out]
      clear HR HA HN hix hlt hk
      subst hf
      go_wp2_with fail
      all_goals (go_ret; refine ⟨ret_bool ?_, rfl⟩; rw [Bool.eq_iff_iff]; simp; omega)
set_option maxRecDepth 100000 in
set_option maxHeartbeats 8000000 in
theorem cRFaults : Calls Tryd.prog 32 #[] w fun e w' => e = .returned (.slice (some ⟨w.heap.size, 0, none⟩) 7 7) ∧ New w w' 9 (.slice (some ⟨w.heap.size, 0, none⟩) 7 7) (strsV flts) := by
  go_enter Tryd.func32, Tryd.ntmps32
  go_wp2_with fail
  go_ret
  refine ⟨rfl, ⟨⟨rfl, Or.inr ⟨_, _, _, rfl, Nat.le_refl _, heap_new w _ rfl, Nat.le_refl _, by decide, rfl, ?_⟩⟩, (Below.refl _ _).alloc (Nat.le_refl _) _⟩⟩
  kernel_rfl
set_option maxRecDepth 100000 in
set_option maxHeartbeats 8000000 in
theorem cRNames : Calls Tryd.prog 57 #[] w fun e w' => e = .returned (.slice (some ⟨w.heap.size, 0, none⟩) 28 28) ∧ New w w' 9 (.slice (some ⟨w.heap.size, 0, none⟩) 28 28) (strsV svcs) := by
  go_enter Tryd.func57, Tryd.ntmps57
  go_wp2_with fail
  go_ret
  refine ⟨rfl, ⟨⟨rfl, Or.inr ⟨_, _, _, rfl, Nat.le_refl _, heap_new w _ rfl, Nat.le_refl _, by decide, rfl, ?_⟩⟩, (Below.refl _ _).alloc (Nat.le_refl _) _⟩⟩
  kernel_rfl
set_option maxRecDepth 100000 in
set_option maxHeartbeats 8000000 in
theorem cRService (S : ByteArray) : Calls Tryd.prog 40 #[.string S] w fun e w' => e = .returned (.int .i64 (svcV (bs S))) ∧ Below w.heap.size w w' := by
  obtain ⟨r, hr⟩ : ∃ r, r = svcV (bs S) := ⟨_, rfl⟩
  rw [← hr]
  have HR := hid hr
  clear hr
  go_enter Tryd.func40, Tryd.ntmps40
  go_wp2_with (go_at_call 57; refine (cRNames).mono ?_; rintro e w1 ⟨rfl, hn⟩; have HN := hid (show Sts w [rowP 9 1 (.slice (some ⟨w.heap.size, 0, none⟩) 28 28) 28 (strsV svcs)] w1 from Sts.new stab0 (Sts.nil w) hn); clear hn)
  obtain ⟨g, hg⟩ : ∃ g, g = w.heap.size := ⟨_, rfl⟩
  rw [← hg] at HN ⊢
  clear hg
  go_loopw [4] (fun i wr => ∃ k : Nat, k ≤ 28 ∧ i = .int .i64 k ∧ Hid (∀ j, j < k → svcs.getD j [] ≠ bs S) ∧ wr = w1) (fun i _ => 28 - (intOf i).toNat)
  case atStart => exact ⟨0, by omega, rfl, hid (fun j h1 => by omega), rfl⟩
  case round =>
    obtain ⟨k, hk, rfl, HI, rfl⟩ := hrel
    by_cases hlt : k < 28
    · obtain ⟨nm, hnm⟩ : ∃ nm, nm = svcs.getD k [] := ⟨_, rfl⟩
      have hcell := Sts.rowCell HN.out k hlt (.string ⟨nm.toArray⟩) (by
        have hl8 : k < svcs.length := hlt
        rw [show strsV svcs = svcs.map strV from rfl, List.getElem?_map, List.getElem?_eq_getElem hl8, hnm, List.getD_eq_getElem?_getD, List.getElem?_eq_getElem hl8]
        rfl)
      have heq := str_eq nm S
      rw [ByteArray.toList_mk] at heq
      have HNM := hid hnm
      clear hnm
      obtain ⟨b, hb⟩ : ∃ b, b = decide (nm = bs S) := ⟨_, rfl⟩
      rw [← hb] at heq
      cases b with
      | true =>
        have hn : nm = bs S := of_decide_eq_true hb.symm
        have hrk : r = (k : Int) + 1 := by
          rw [HR.out, svcV, ix_first svcs (bs S) 1 k (fun j hj => HI.out j hj) hlt (by rw [← HNM.out, hn])]
          omega
        clear HR HI hb hn
        subst hrk
        go_wp2_with fail
        all_goals (go_ret; exact ⟨rfl, HN.out.below⟩)
      | false =>
        have hn : nm ≠ bs S := of_decide_eq_false hb.symm
        have HI2 := hid (show ∀ j, j < k + 1 → svcs.getD j [] ≠ bs S from fun j h2 => by
          by_cases e : j = k
          · rw [e, ← HNM.out]; exact hn
          · exact HI.out j (by omega))
        clear hb hn
        go_wp2_with fail
        all_goals (go_roundw
                   case rel => exact ⟨k + 1, by omega, by simp, HI2, trivial⟩
                   case measure => simp [intOf]; omega)
    · have hk28 : k = 28 := by omega
      subst hk28
      have hr0 : r = 0 := by
        rw [HR.out, svcV, ix_none svcs (bs S) 1 (fun j hj => HI.out j hj)]
        rfl
      clear HR HI
      subst hr0
      go_wp2_with fail
      all_goals (go_ret; exact ⟨rfl, HN.out.below⟩)
end
end Go.Proofs.YtimnhheagdhpgaaDoor
