/- The specification's gaps. -/
import Derived.Test.YtfjadhkhmhnccaaSrcSml
set_option linter.unusedVariables false
set_option linter.unusedSimpArgs false
namespace Go.Proofs.Ytfjadhkhmhnccaa
open Go.RowKit Go.Proofs.Num
set_option maxRecDepth 100000 in
set_option maxHeartbeats 2000000 in
theorem cRefGaps (w : World) (v : Value) (l : List Rng.R) (h : RdR w v l) (hn : l.length < 1000000) : Calls Try.prog 105 #[v] w fun e w' => e = .returned (.bool (Fil.gapsB l)) ∧ Below w.heap.size w w' := by
  obtain ⟨a, cap, rfl, hcap, hx⟩ := h
  have HX := hid hx
  have HG := hid (show Fil.gapsB l = (Fil.gapsGo true (-1) l && Fil.withinB l.length 1 16) from rfl)
  clear hx hcap
  by_cases hlen : Fil.withinB l.length 1 16 = false
  · have HF : Hid (Fil.gapsB l = false) := hid (by rw [HG.out, hlen, Bool.and_false])
    have d : decide ((l.length : Int) < 1) = true ∨ (decide ((l.length : Int) < 1) = false ∧ decide ((l.length : Int) > 16) = true) := by
      unfold Fil.withinB at hlen
      simp only [Bool.and_eq_false_iff, decide_eq_true_eq, decide_eq_false_iff_not] at hlen ⊢
      omega
    clear hlen
    rcases d with d1 | ⟨d1, d2⟩
    all_goals
      go_enter Try.func105, Try.ntmps105
      go_wp2_with fail
      go_ret
      exact ⟨ret_bool (by rw [HF.out]), Below.refl _ _⟩
  · have hlen : Fil.withinB l.length 1 16 = true := by simpa using hlen
    have HF : Hid (Fil.gapsB l = Fil.gapsGo true (-1) l) := hid (by rw [HG.out, hlen, Bool.and_true])
    have d : decide ((l.length : Int) < 1) = false ∧ decide ((l.length : Int) > 16) = false := by
      unfold Fil.withinB at hlen
      simp only [Bool.and_eq_true, decide_eq_true_eq, decide_eq_false_iff_not] at hlen ⊢
      omega
    obtain ⟨d1, d2⟩ := d
    clear hlen HG
    go_enter Try.func105, Try.ntmps105
    go_wp2_with fail
    go_loopw [3, 4] (fun z i wr => ∃ (k : Nat) (last : Int), k ≤ l.length ∧ i = .int .i64 k ∧ z = .int .i64 last ∧ -1 ≤ last ∧ Fil.gapsGo true (-1) l = Fil.gapsGo (k == 0) last (l.drop k) ∧ Below w.heap.size w wr) (fun _ i _ => l.length - (intOf i).toNat)
    case atStart => exact ⟨0, -1, by omega, rfl, rfl, by omega, rfl, Below.refl _ _⟩
    case round =>
      obtain ⟨k, last, hk, rfl, rfl, hla, hgo, hbel⟩ := hrel
      have HGO := hid hgo
      have HB := hid hbel
      clear hgo hbel
      by_cases hlt : k < l.length
      · obtain ⟨b, off, rfl, hb, c0, c1⟩ := HX.out k hlt
        rw [← HB.out.cell hb] at c0 c1
        have hdr : l.drop k = l[k] :: l.drop (k + 1) := List.drop_eq_getElem_cons hlt
        rw [hdr] at HGO
        have HBN := hid (fun n => below_drewN HB.out n)
        clear hdr
        obtain ⟨x, hx⟩ : ∃ x, x = l[k] := ⟨_, rfl⟩
        rw [← hx] at c0 c1 HGO
        clear hx
        obtain ⟨f, t⟩ := x
        simp only [] at c0 c1
        by_cases h0 : k = 0 ∧ f = 0 ∧ t = 0
        · obtain ⟨rfl, rfl, rfl⟩ := h0
          have HN : Hid (Fil.gapsGo true (-1) l = Fil.gapsGo (1 == 0) last (l.drop 1)) := hid (by rw [HGO.out]; simp [Fil.gapsGo])
          simp only [Nat.zero_mul, Nat.add_zero] at c0 c1
          go_wp2_with fail
          go_roundw
          case rel => exact ⟨1, last, by omega, by go_num, rfl, hla, HN.out, HB.out⟩
          case measure => simp [intOf]; omega
        · have h0' : k = 0 ∧ (f == 0) = true ∧ (t == 0) = false ∨ k = 0 ∧ (f == 0) = false ∨ ((k : Int) == 0) = false := by
            by_cases q1 : k = 0
            · by_cases q2 : f = 0
              · exact Or.inl ⟨q1, by simpa using q2, by simpa using fun h => h0 ⟨q1, q2, h⟩⟩
              · exact Or.inr (Or.inl ⟨q1, by simpa using q2⟩)
            · exact Or.inr (Or.inr (by simpa using q1))
          have HN : Hid (Fil.gapsGo true (-1) l = if f ≤ last ∨ f < 0 ∨ t ≤ f ∨ 65536 < t then false else Fil.gapsGo false t (l.drop (k + 1))) := by
            refine hid ?_
            rw [HGO.out]
            show (if (k == 0) = true ∧ (f, t) = (0, 0) then _ else _) = _
            rw [if_neg]
            rintro ⟨q1, q2⟩
            injection q2 with q2 q3
            exact h0 ⟨by simpa using q1, q2, q3⟩
          clear h0 HGO
          have hb4 : decide (f ≤ last) = true ∨ (decide (f ≤ last) = false ∧ decide (f ≥ t) = true) ∨ (decide (f ≤ last) = false ∧ decide (f ≥ t) = false ∧ decide (t > 65536) = true) ∨ (decide (f ≤ last) = false ∧ decide (f ≥ t) = false ∧ decide (t > 65536) = false) := by
            simp only [decide_eq_true_eq, decide_eq_false_iff_not]; omega
          rcases hb4 with p | ⟨p, p2⟩ | ⟨p, p2, p3⟩ | ⟨p, p2, p3⟩
          · have HFF : Hid (Fil.gapsGo true (-1) l = false) := hid (by rw [HN.out, if_pos (by simp only [decide_eq_true_eq, decide_eq_false_iff_not] at *; omega)])
            clear HN hla
            rcases h0' with ⟨rfl, q1, q2⟩ | ⟨rfl, q1⟩ | q1
            all_goals
              try simp only [Nat.zero_mul, Nat.add_zero] at c0 c1
              go_wp2_with fail
              go_quiet (fail)
              go_wp2_with fail
              go_ret
              exact ⟨ret_bool (by rw [HF.out, HFF.out]), HBN.out _⟩
          · have HFF : Hid (Fil.gapsGo true (-1) l = false) := hid (by rw [HN.out, if_pos (by simp only [decide_eq_true_eq, decide_eq_false_iff_not] at *; omega)])
            clear HN hla
            rcases h0' with ⟨rfl, q1, q2⟩ | ⟨rfl, q1⟩ | q1
            all_goals
              try simp only [Nat.zero_mul, Nat.add_zero] at c0 c1
              go_wp2_with fail
              go_quiet (fail)
              go_wp2_with fail
              go_ret
              exact ⟨ret_bool (by rw [HF.out, HFF.out]), HBN.out _⟩
          · have HFF : Hid (Fil.gapsGo true (-1) l = false) := hid (by rw [HN.out, if_pos (by simp only [decide_eq_true_eq, decide_eq_false_iff_not] at *; omega)])
            clear HN hla
            rcases h0' with ⟨rfl, q1, q2⟩ | ⟨rfl, q1⟩ | q1
            all_goals
              try simp only [Nat.zero_mul, Nat.add_zero] at c0 c1
              go_wp2_with fail
              go_quiet (fail)
              go_wp2_with fail
              go_ret
              exact ⟨ret_bool (by rw [HF.out, HFF.out]), HBN.out _⟩
          · have HFF : Hid (Fil.gapsGo true (-1) l = Fil.gapsGo false t (l.drop (k + 1))) := hid (by rw [HN.out, if_neg (by simp only [decide_eq_true_eq, decide_eq_false_iff_not] at *; omega)])
            have HTT : Hid (-1 ≤ t) := hid (by simp only [decide_eq_true_eq, decide_eq_false_iff_not] at *; omega)
            clear HN hla
            rcases h0' with ⟨rfl, q1, q2⟩ | ⟨rfl, q1⟩ | q1
            · try simp only [Nat.zero_mul, Nat.add_zero] at c0 c1
              go_wp2_with fail
              go_quiet (fail)
              go_wp2_with fail
              go_roundw
              case rel => exact ⟨1, t, by omega, by first | rfl | go_num, rfl, HTT.out, HFF.out, HBN.out _⟩
              case measure => simp [intOf]; omega
            · try simp only [Nat.zero_mul, Nat.add_zero] at c0 c1
              go_wp2_with fail
              go_quiet (fail)
              go_wp2_with fail
              go_roundw
              case rel => exact ⟨1, t, by omega, by first | rfl | go_num, rfl, HTT.out, HFF.out, HBN.out _⟩
              case measure => simp [intOf]; omega
            · try simp only [Nat.zero_mul, Nat.add_zero] at c0 c1
              go_wp2_with fail
              go_quiet (fail)
              go_wp2_with fail
              go_roundw
              case rel => exact ⟨k + 1, t, by omega, by first | rfl | go_num, rfl, HTT.out, HFF.out, HBN.out _⟩
              case measure => simp [intOf]; omega
      · have e : l.drop k = [] := List.drop_eq_nil_of_le (by omega)
        rw [e] at HGO
        go_wp2_with fail
        go_ret
        exact ⟨ret_bool (by rw [HF.out, HGO.out]; simp [Fil.gapsGo]), HB.out⟩
def classedB (k : Int) : Bool := (k == 1) || (k == 3)
theorem cclassedK (w : World) (k : Int) : Calls Try.prog 102 #[.int .i64 k] w fun e w' => e = .returned (.bool (classedB k)) ∧ w = w' := by
  unfold classedB
  rcases Bool.eq_false_or_eq_true (k == 1) with h1 | h1
  all_goals
    go_enter Try.func102, Try.ntmps102
    go_wp2_with fail
    go_ret
    exact ⟨by rw [h1]; rfl, rfl⟩
def codedB (k : Int) : Bool := (k == 3) || (k == 5)
theorem ccodedK (w : World) (k : Int) : Calls Try.prog 104 #[.int .i64 k] w fun e w' => e = .returned (.bool (codedB k)) ∧ w = w' := by
  unfold codedB
  rcases Bool.eq_false_or_eq_true (k == 3) with h1 | h1
  all_goals
    go_enter Try.func104, Try.ntmps104
    go_wp2_with fail
    go_ret
    exact ⟨by rw [h1]; rfl, rfl⟩
end Go.Proofs.Ytfjadhkhmhnccaa
