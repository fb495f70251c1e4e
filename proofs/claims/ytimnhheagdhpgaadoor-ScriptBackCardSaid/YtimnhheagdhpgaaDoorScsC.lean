/- The specification's small functions: numbers. -/
import Derived.Test.YtimnhheagdhpgaaDoorScsB
set_option linter.unusedVariables false
set_option linter.unusedSimpArgs false
namespace Go.Proofs.YtimnhheagdhpgaaDoor
open Go.RowKit Go.Proofs.Num
open Scr (Str bs numV numsV small svcV fltV nameV bytesV oneV fileV faultV orderV tailV flts parseL parseV b8 textV textL)
/-- Digits under way: of u, k is left, s is written. -/
def DigI (u : Nat) (k : Int) (s : Str) : Prop := if s = [] then k.natAbs = u else if k = 0 then Lib.decDigits u = s else Lib.decDigits u = Lib.decDigits k.natAbs ++ s
theorem DigI.start (n : Int) : DigI n.natAbs n [] := by simp [DigI]
theorem DigI.step {u : Nat} {k : Int} {s : Str} {c : UInt8} (h : DigI u k s) (hc : c.toNat = 48 + k.natAbs % 10) (hgo : k ≠ 0 ∨ s = []) : DigI u (k.tdiv 10) (c :: s) := by
  have hcu : UInt8.ofNat (48 + k.natAbs % 10) = c := by
    apply UInt8.toNat_inj.1
    rw [UInt8.toNat_ofNat', hc]; omega
  have hq : (k.tdiv 10).natAbs = k.natAbs / 10 := by rw [Int.natAbs_tdiv]; rfl
  have hz : k.tdiv 10 = 0 ↔ k.natAbs < 10 := by rw [← Int.natAbs_eq_zero, hq]; omega
  have key : Lib.decDigits k.natAbs = if k.natAbs < 10 then [c] else Lib.decDigits (k.natAbs / 10) ++ [c] := by
    rw [Lib.decDigits]
    by_cases h10 : k.natAbs < 10
    · rw [dif_pos h10, if_pos h10, ← hcu, Nat.mod_eq_of_lt h10]
    · rw [dif_neg h10, if_neg h10, ← hcu]
  have hu : Lib.decDigits u = Lib.decDigits k.natAbs ++ s := by
    unfold DigI at h
    by_cases hs : s = []
    · rw [if_pos hs] at h; rw [← h, hs, List.append_nil]
    · rw [if_neg hs] at h
      rcases hgo with hk | hk
      · rw [if_neg hk] at h; exact h
      · exact absurd hk hs
  unfold DigI
  rw [if_neg (by simp)]
  by_cases h10 : k.natAbs < 10
  · rw [if_pos (hz.2 h10), hu, key, if_pos h10]; rfl
  · rw [if_neg (fun e => h10 (hz.1 e)), hu, key, if_neg h10, hq, List.append_assoc]; rfl
theorem DigI.stop {u : Nat} {s : Str} (h : DigI u 0 s) (hs : s ≠ []) : s = Lib.decDigits u := by
  unfold DigI at h; rw [if_neg hs, if_pos rfl] at h; exact h.symm
theorem DigI.len {u : Nat} {k : Int} {s : Str} (h : DigI u k s) : s.length ≤ (Lib.decDigits u).length := by
  unfold DigI at h
  by_cases hs : s = []
  · rw [hs]; exact Nat.zero_le _
  · rw [if_neg hs] at h
    by_cases hk : k = 0
    · rw [if_pos hk] at h; rw [h]; exact Nat.le_refl _
    · rw [if_neg hk] at h; rw [h]; simp
theorem dec_len64 (u : Nat) (h : u ≤ 9223372036854775808) : (Lib.decDigits u).length ≤ 20 := by
  rw [Lib.decDigits_length]; exact nDig 19 u (by omega)
theorem newRow1 {w : World} (x : Value) (t : TypeId) : New w (w.alloc (.cells #[x] t)) t (.slice (some ⟨w.heap.size, 0, none⟩) 1 1) [x] :=
  ⟨⟨rfl, Or.inr ⟨_, _, _, rfl, Nat.le_refl _, heap_new w _ rfl, Nat.le_refl _, by decide, rfl, rfl⟩⟩, (Below.refl _ _).alloc (Nat.le_refl _) _⟩
/-- One byte as a string. -/
theorem conv_one (x : World) (c : UInt8) : (convert 22 9 (.slice (some ⟨x.heap.size, 0, none⟩) 1 1)).run Tryd.prog (x.alloc (.cells #[.int .u8 (c.toNat : Int)] 5)) = .ok (.string ⟨#[c]⟩) (x.alloc (.cells #[.int .u8 (c.toNat : Int)] 5)) := by
  have h := (newRow1 (w := x) (.int .u8 (c.toNat : Int)) 5).rd
  exact conv_bytes (b := [c]) h
section
variable {w : World}
theorem cSmall (n : Int) : Calls Tryd.prog 28 #[.int .i64 n] w fun e w' => e = .returned (.bool (small n)) ∧ w' = w := by
  obtain ⟨r, hr⟩ : ∃ r, r = small n := ⟨_, rfl⟩
  rw [← hr]
  unfold small at hr
  rcases (show n < -1099511627776 ∨ (-1099511627776 ≤ n ∧ n ≤ 1099511627776) ∨ (-1099511627776 ≤ n ∧ 1099511627776 < n) by omega) with h | ⟨h1, h2⟩ | ⟨h1, h2⟩
  · rw [decide_eq_false (by omega)] at hr
    subst hr
    have f1 : decide (-1099511627776 ≤ n) = false := decide_eq_false (by omega)
    go_enter Tryd.func28, Tryd.ntmps28
    go_wp2_with fail
    all_goals (go_ret; exact ⟨rfl, rfl⟩)
  · rw [decide_eq_true ⟨h1, h2⟩] at hr
    subst hr
    have f1 : decide (-1099511627776 ≤ n) = true := decide_eq_true h1
    have f2 : decide (n ≤ 1099511627776) = true := decide_eq_true h2
    go_enter Tryd.func28, Tryd.ntmps28
    go_wp2_with fail
    all_goals (go_ret; exact ⟨rfl, rfl⟩)
  · rw [decide_eq_false (by omega)] at hr
    subst hr
    have f1 : decide (-1099511627776 ≤ n) = true := decide_eq_true h1
    have f2 : decide (n ≤ 1099511627776) = false := decide_eq_false (by omega)
    go_enter Tryd.func28, Tryd.ntmps28
    go_wp2_with fail
    all_goals (go_ret; exact ⟨rfl, rfl⟩)
set_option maxRecDepth 100000 in
set_option maxHeartbeats 4000000 in
theorem cDigits (n : Int) (hn : i64 n) : Calls Tryd.prog 27 #[.int .i64 n] w fun e w' => ∃ I, e = .returned (.string I) ∧ (bs I = Lib.itoa n ∧ I.size ≤ 21) ∧ Below w.heap.size w w' := by
  obtain ⟨hn0, hn1⟩ := hn
  go_enter Tryd.func27, Tryd.ntmps27
  go_wp2_with fail
  go_loopw [3, 4] (fun v k wr => ∃ (s : ByteArray) (kk : Int), v = .string s ∧ k = .int .i64 kk ∧ (-9223372036854775808 ≤ kk ∧ kk ≤ 9223372036854775807) ∧ s.size ≤ 20 ∧ Hid (DigI n.natAbs kk (bs s)) ∧ Hid (Below w.heap.size w wr)) (fun v k _ => (intOf k).natAbs + (match v with | .string s => if s.size = 0 then 1 else 0 | _ => 0))
  case atStart => exact ⟨⟨#[]⟩, n, rfl, rfl, ⟨hn0, hn1⟩, Nat.zero_le _, hid (DigI.start n), hid (Below.refl _ _)⟩
  case round =>
    obtain ⟨s, k, rfl, rfl, ⟨hk0, hk1⟩, hs, HI, HB⟩ := hrel
    have hs2 : ¬ 9223372036854775807 < 1 + s.size := by omega
    have hs3 : ¬ 9223372036854775807 < s.size + 1 := by omega
    have go : ∀ (k' : Int) (c : UInt8) (x : World), k' = k.tdiv 10 → c.toNat = 48 + k.natAbs % 10 → (k ≠ 0 ∨ bs s = []) → Below wr.heap.size wr x → (∃ (s1 : ByteArray) (kk : Int), Value.string (⟨#[c]⟩ ++ s) = .string s1 ∧ Value.int .i64 k' = .int .i64 kk ∧ (-9223372036854775808 ≤ kk ∧ kk ≤ 9223372036854775807) ∧ s1.size ≤ 20 ∧ Hid (DigI n.natAbs kk (bs s1)) ∧ Hid (Below w.heap.size w x)) := fun k' c x hk' hc hgo hx => by
      subst hk'
      have h1 := (HI.out).step hc hgo
      have h2 := h1.len
      have h3 := dec_len64 n.natAbs (by omega)
      have hb : bs (⟨#[c]⟩ ++ s) = c :: bs s := by rw [bs_app]; rfl
      refine ⟨_, _, rfl, rfl, ?_, by rw [Scr.bs_size, hb]; omega, hid (by rw [hb]; exact h1), hid (below_step HB.out hx)⟩
      have h5 : (k.tdiv 10).natAbs = k.natAbs / 10 := by rw [Int.natAbs_tdiv]; rfl
      omega
    have GO := hid go
    have hm1 : ∀ c : UInt8, ¬ ((⟨#[c]⟩ ++ s : ByteArray).size = 0) := fun c => by rw [ByteArray.size_append]; show ¬ (1 + s.size = 0); omega
    have HM1 := hid hm1
    clear go hm1
    by_cases hz : k = 0
    · subst hz
      by_cases hse : s = ⟨#[]⟩
      · subst hse
        have hcv := conv_one wr 48
        rw [show (((48 : UInt8).toNat : Nat) : Int) = 48 from rfl] at hcv
        go_wp2_with fail
        all_goals (go_roundw
                   case rel => exact GO.out 0 48 _ (by decide) (by decide) (Or.inr rfl) ((Below.refl _ _).alloc (Nat.le_refl _) _)
                   case measure => first | decide | (simp [intOf]; done) | (simp [intOf]; decide))
      · have hI : bs s = Lib.decDigits n.natAbs := (HI.out).stop (fun e => hse (by rw [← Scr.mk_bs s, e]))
        have hse3 : (s.toList == ([] : List UInt8)) = false := by
          rw [ByteArray.toList_eq]
          simp only [beq_eq_false_iff_ne]
          intro e
          exact hse (by rw [← Scr.mk_bs s]; show (⟨(s.data.toList).toArray⟩ : ByteArray) = _; rw [e])
        have HII := hid hI
        have hse4 : ¬ (s.data.toList = []) := fun e => hse (by rw [← Scr.mk_bs s]; show (⟨(s.data.toList).toArray⟩ : ByteArray) = _; rw [e])
        clear hI
        by_cases hneg : n < 0
        · have f1 : decide (n < 0) = true := decide_eq_true hneg
          go_wp2_with fail
          all_goals (
            go_ret
            refine ⟨_, rfl, ⟨?_, ?_⟩, HB.out⟩
            · rw [bs_app, HII.out]; unfold Lib.itoa; rw [if_pos hneg]; rfl
            · rw [ByteArray.size_append]; show 1 + s.size ≤ 21; omega)
        · have f1 : decide (n < 0) = false := decide_eq_false hneg
          go_wp2_with fail
          all_goals (
            go_ret
            refine ⟨_, rfl, ⟨?_, by omega⟩, HB.out⟩
            rw [HII.out]; unfold Lib.itoa; rw [if_neg (by omega)]; congr 1; omega)
    · have hk2 : (k == 0) = false := by simp [hz]
      by_cases hneg : k < 0
      · obtain ⟨m, hm⟩ : ∃ m : Nat, (m : Int) = -k := ⟨(-k).toNat, by omega⟩
        have hkm : k = -(m : Int) := by omega
        have hd : Int.tmod k 10 = -((m : Int) % 10) := by rw [hkm, Int.neg_tmod, Int.tmod_eq_emod_of_nonneg (by omega)]
        have hq : Int.tdiv k 10 = -((m : Int) / 10) := by rw [hkm, Int.neg_tdiv, Int.tdiv_eq_ediv_of_nonneg (by omega)]
        obtain ⟨c, hc⟩ : ∃ c : UInt8, c.toNat = 48 + m % 10 := ⟨UInt8.ofNat (48 + m % 10), by rw [UInt8.toNat_ofNat']; omega⟩
        have hcv := conv_one wr c
        rw [show ((c.toNat : Nat) : Int) = 48 + (m : Int) % 10 by rw [hc]; omega] at hcv
        obtain ⟨q, hqe⟩ : ∃ q : Int, q = (m : Int) / 10 := ⟨_, rfl⟩
        have hq3 : 0 ≤ q ∧ q ≤ 922337203685477580 := by omega
        rw [← hqe] at hq
        have HQE := hid hqe
        clear hqe
        obtain ⟨hq4, hq5⟩ := hq3
        have HQ := hid hq
        have HC := hid hc
        obtain ⟨d, hd2⟩ : ∃ d : Int, d = (m : Int) % 10 := ⟨_, rfl⟩
        have hd3 : 0 ≤ d ∧ d < 10 := by omega
        rw [← hd2] at hd hcv
        clear hc
        have HD := hid hd2
        clear hd2 hkm
        have HM := hid hm
        clear hm
        obtain ⟨hd4, hd5⟩ := hd3
        by_cases hd0 : d = 0
        · subst hd0
          rw [show (-(0 : Int)) = 0 from rfl] at hd
          rw [show (48 : Int) + 0 = 48 from rfl] at hcv
          go_wp2_with fail
          all_goals (go_roundw
                     case rel => exact GO.out _ c _ (by first | rfl | exact HQ.out.symm) (by rw [HC.out]; have := HM.out; omega) (Or.inl hz) ((Below.refl _ _).alloc (Nat.le_refl _) _)
                     case measure => simp only [intOf, HM1.out, if_false]; have := HM.out; have := HQ.out; have := HQE.out; omega)
        · have f1 : -d < 0 := by omega
          go_wp2_with fail
          all_goals (go_roundw
                     case rel => exact GO.out _ c _ (by first | rfl | exact HQ.out.symm) (by rw [HC.out]; have := HM.out; omega) (Or.inl hz) ((Below.refl _ _).alloc (Nat.le_refl _) _)
                     case measure => simp only [intOf, HM1.out, if_false]; have := HM.out; have := HQ.out; have := HQE.out; omega)
      · have hd : Int.tmod k 10 = k % 10 := Int.tmod_eq_emod_of_nonneg (by omega)
        have hq : Int.tdiv k 10 = k / 10 := Int.tdiv_eq_ediv_of_nonneg (by omega)
        obtain ⟨c, hc⟩ : ∃ c : UInt8, c.toNat = 48 + k.natAbs % 10 := ⟨UInt8.ofNat (48 + k.natAbs % 10), by rw [UInt8.toNat_ofNat']; omega⟩
        have hcv := conv_one wr c
        rw [show ((c.toNat : Nat) : Int) = 48 + k % 10 by rw [hc]; omega] at hcv
        have HC := hid hc
        have HQ := hid hq
        clear hc
        go_wp2_with fail
        all_goals (go_roundw
                   case rel => exact GO.out _ c _ (by first | rfl | exact HQ.out.symm) HC.out (Or.inl hz) ((Below.refl _ _).alloc (Nat.le_refl _) _)
                   case measure => simp only [intOf, HM1.out, if_false]; omega)
end
end Go.Proofs.YtimnhheagdhpgaaDoor
