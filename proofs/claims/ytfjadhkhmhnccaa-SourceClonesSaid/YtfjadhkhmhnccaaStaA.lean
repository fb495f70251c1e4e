/- The specification's Valid at the metadata; the specification's New. -/
import Derived.Test.YtfjadhkhmhnccaaSrcSml
set_option linter.unusedVariables false
set_option linter.unusedSimpArgs false
namespace Go.Proofs.Ytfjadhkhmhnccaa
open Go.RowKit Go.Proofs.Num
theorem cClassed1 (w : World) : Calls Try.prog 102 #[.int .i64 1] w fun e w' => e = .returned (.bool true) ∧ w = w' := by
  go_enter Try.func102, Try.ntmps102
  go_wp2_with fail
  go_ret
  exact ⟨rfl, rfl⟩
theorem cCoded1 (w : World) : Calls Try.prog 104 #[.int .i64 1] w fun e w' => e = .returned (.bool false) ∧ w = w' := by
  go_enter Try.func104, Try.ntmps104
  go_wp2_with fail
  go_ret
  exact ⟨rfl, rfl⟩
set_option maxRecDepth 100000 in
theorem cNamed (w : World) (s : ByteArray) (hs : s.size ≤ 1000000) : Calls Try.prog 103 #[.string s] w fun e w' => e = .returned (.bool (Fil.nameB s)) ∧ w = w' := by
  have hN : Fil.nameB s = (s.data.toList.all chB && decide (1 ≤ s.size) && decide (s.size ≤ 64)) := rfl
  have HN := hid hN
  clear hN
  by_cases h1 : s.size < 1
  · have d1 : decide ((s.size : Int) < 1) = true := decide_eq_true (by omega)
    have HF : Hid (Fil.nameB s = false) := hid (by rw [HN.out, decide_eq_false (by omega : ¬ 1 ≤ s.size)]; simp)
    clear h1
    go_enter Try.func103, Try.ntmps103
    go_wp2_with fail
    go_ret
    exact ⟨ret_bool (by rw [HF.out]), rfl⟩
  · have d1 : decide ((s.size : Int) < 1) = false := decide_eq_false (by omega)
    by_cases h2 : 64 < s.size
    · have d2 : decide ((s.size : Int) > 64) = true := decide_eq_true (by omega)
      have HF : Hid (Fil.nameB s = false) := hid (by rw [HN.out, decide_eq_false (by omega : ¬ s.size ≤ 64)]; simp)
      clear h1 h2
      go_enter Try.func103, Try.ntmps103
      go_wp2_with fail
      go_ret
      exact ⟨ret_bool (by rw [HF.out]), rfl⟩
    · have d2 : decide ((s.size : Int) > 64) = false := decide_eq_false (by omega)
      have HF : Hid (Fil.nameB s = s.data.toList.all chB) := hid (by rw [HN.out, decide_eq_true (by omega : 1 ≤ s.size), decide_eq_true (by omega : s.size ≤ 64)]; simp)
      clear h1 h2 HN
      go_enter Try.func103, Try.ntmps103
      go_wp2_with fail
      go_loop [3] (fun i => ∃ k : Nat, k ≤ s.size ∧ i = .int .i64 k ∧ (s.data.toList.take k).all chB = true) (fun i => s.size - (intOf i).toNat)
      case atStart => exact ⟨0, Nat.zero_le _, rfl, rfl⟩
      case round =>
        obtain ⟨k, hk, rfl, hall⟩ := hrel
        have HA := hid hall
        clear hall
        by_cases hlt : k < s.size
        · have hl : k < s.data.toList.length := by simpa using hlt
          have hg : s.data.toList[k] = s[k] := rfl
          have hst := all_take s.data.toList k hl
          have hfl := all_false s.data.toList k hl
          rw [hg] at hst hfl
          have HST := hid hst
          have HFL := hid hfl
          clear hst hfl hg
          by_cases hc : 33 ≤ s[k].toNat ∧ s[k].toNat ≤ 126
          · have hcb : chB s[k] = true := by unfold chB; simp [hc]
            have HC := hid hcb
            have q1 : decide ((s[k].toNat : Int) < 33) = false := decide_eq_false (by omega)
            have q2 : decide (126 < (s[k].toNat : Int)) = false := decide_eq_false (by omega)
            clear hc hcb
            go_wp2_with fail
            go_round
            case rel => exact ⟨k + 1, by omega, by go_num, by rw [HST.out, HA.out, HC.out]; rfl⟩
            case measure => simp [intOf]; omega
          · have hcb : chB s[k] = false := by
              unfold chB
              by_cases q : 33 ≤ s[k].toNat
              · have : ¬ s[k].toNat ≤ 126 := fun h => hc ⟨q, h⟩
                simp [this]
              · simp [q]
            have HC := hid (HFL.out hcb)
            have q' : decide ((s[k].toNat : Int) < 33) = true ∨ (decide ((s[k].toNat : Int) < 33) = false ∧ decide (126 < (s[k].toNat : Int)) = true) := by
              simp only [decide_eq_true_eq, decide_eq_false_iff_not]; omega
            clear hc hcb
            rcases q' with q | ⟨q, q2⟩
            all_goals
              go_wp2_with fail
              go_ret
              exact ⟨ret_bool (by rw [HF.out, HC.out]), rfl⟩
        · have e : s.data.toList.take k = s.data.toList := List.take_of_length_le (by simp; omega)
          rw [e] at HA
          go_wp2_with fail
          go_ret
          exact ⟨ret_bool (by rw [HF.out, HA.out]), rfl⟩
def idB (src num : Int) : Bool := Fil.withinB src 0 15 && Fil.withinB num 0 65535
def szB (cls : Int) (n : Nat) : Bool := Fil.withinB cls 1 2 && decide (n ≤ 65536)
theorem head_valid (src num cls : Int) (name : ByteArray) (n : Nat) : (Fil.headP src num cls name n).validB = (idB src num && szB cls n && Fil.nameB name) := by
  have h1 : (Fil.headP src num cls name n).validB = (Fil.withinB 1 1 7 && Fil.withinB src 0 15 && Fil.withinB num 0 65535 && (Fil.headP src num cls name n).rest.emptyB && (Fil.withinB cls 1 2 && Fil.withinB (n : Int) 0 65536 && Fil.nameB name)) := rfl
  have h2 : (Fil.headP src num cls name n).rest.emptyB = true := by kernel_rfl
  have h3 : Fil.withinB (n : Int) 0 65536 = decide (n ≤ 65536) := by
    unfold Fil.withinB
    rw [decide_eq_true (by omega : (0 : Int) ≤ (n : Int)), Bool.true_and]
    simp only [decide_eq_decide]; omega
  rw [h1, h2, h3, show Fil.withinB 1 1 7 = true by decide]
  unfold idB szB
  simp only [Bool.true_and, Bool.and_true, Bool.and_assoc]
def ncB (a b n : Int) : Bool := decide (a ≤ n) && decide (n ≤ b)
set_option maxRecDepth 100000 in
set_option maxHeartbeats 2000000 in
theorem cRefHead (w : World) (src num cls : Int) (name : ByteArray) (n : Nat) (hs : name.size ≤ 1000000) :
    Calls Try.prog 57 #[.agg #[.int .i64 1, .int .i64 src, .int .i64 num, .int .i64 cls, .string name, .int .i64 (n : Int), .int .i64 0, .slice none 0 0, .int .u32 0, .int .i64 0, .slice none 0 0]] w fun e w' => e = .returned (.bool (Fil.headP src num cls name n).validB) ∧ Below w.heap.size w w' := by
  rw [head_valid]
  have HB := hid ((Below.refl w.heap.size w).alloc (Nat.le_refl _) (.cells #[.int .i64 1, .int .i64 src, .int .i64 num, .int .i64 cls, .string name, .int .i64 (n : Int), .int .i64 0, .slice none 0 0, .int .u32 0, .int .i64 0, .slice none 0 0] 45))
  have HNM := fun w => hid (cNamed w name hs)
  cases h1 : idB src num with
  | false =>
    have q : decide (src < 0) = true ∨ (decide (src < 0) = false ∧ decide (src > 15) = true) ∨ (decide (src < 0) = false ∧ decide (src > 15) = false ∧ decide (num < 0) = true) ∨ (decide (src < 0) = false ∧ decide (src > 15) = false ∧ decide (num < 0) = false ∧ decide (num > 65535) = true) := by
      unfold idB Fil.withinB at h1
      simp only [Bool.and_eq_false_iff, decide_eq_true_eq, decide_eq_false_iff_not] at h1 ⊢
      omega
    simp only [Bool.false_and]
    clear h1
    rcases q with q1 | ⟨q1, q2⟩ | ⟨q1, q2, q3⟩ | ⟨q1, q2, q3, q4⟩
    all_goals
      go_enter Try.func57, Try.ntmps57
      go_wp2_with fail
      go_ret
      exact ⟨rfl, HB.out⟩
  | true =>
    have q : decide (src < 0) = false ∧ decide (src > 15) = false ∧ decide (num < 0) = false ∧ decide (num > 65535) = false := by
      unfold idB Fil.withinB at h1
      simp only [Bool.and_eq_true, decide_eq_true_eq, decide_eq_false_iff_not] at h1 ⊢
      omega
    obtain ⟨q1, q2, q3, q4⟩ := q
    simp only [Bool.true_and]
    clear h1
    have hz : decide ((n : Int) < 0) = false := decide_eq_false (by omega)
    cases h2 : szB cls n with
    | false =>
      have p : decide (cls < 1) = true ∨ (decide (cls < 1) = false ∧ decide (cls > 2) = true) ∨ (decide (cls < 1) = false ∧ decide (cls > 2) = false ∧ decide ((n : Int) > 65536) = true) := by
        unfold szB Fil.withinB at h2
        simp only [Bool.and_eq_false_iff, decide_eq_true_eq, decide_eq_false_iff_not] at h2 ⊢
        omega
      simp only [Bool.false_and]
      clear h2
      rcases p with p1 | ⟨p1, p2⟩ | ⟨p1, p2, p3⟩
      all_goals
        go_enter Try.func57, Try.ntmps57
        go_wp2_with (first | (go_at_call 102; refine (cClassed1 _).mono ?_; rintro e w2 ⟨rfl, rfl⟩))
        go_ret
        exact ⟨rfl, HB.out⟩
    | true =>
      have p : decide (cls < 1) = false ∧ decide (cls > 2) = false ∧ decide ((n : Int) > 65536) = false := by
        unfold szB Fil.withinB at h2
        simp only [Bool.and_eq_true, decide_eq_true_eq, decide_eq_false_iff_not] at h2 ⊢
        omega
      obtain ⟨p1, p2, p3⟩ := p
      simp only [Bool.true_and]
      clear h2
      cases h3 : Fil.nameB name
      all_goals
        go_enter Try.func57, Try.ntmps57
        go_wp2_with (first | (go_at_call 102; refine (cClassed1 _).mono ?_; rintro e w2 ⟨rfl, rfl⟩) | (go_at_call 104; refine (cCoded1 _).mono ?_; rintro e w2 ⟨rfl, rfl⟩) | (go_at_call 103; refine (HNM _).out.mono ?_; rintro e w2 ⟨rfl, rfl⟩; rw [h3]))
        go_ret
        exact ⟨rfl, HB.out⟩
end Go.Proofs.Ytfjadhkhmhnccaa
