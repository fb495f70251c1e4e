/- The contracts of pdu's name and empty. -/
import Derived.Test.YtfjadhkhmhnccaaPduVal
set_option linter.unusedVariables false
set_option linter.unusedSimpArgs false
namespace Go.Proofs.Ytfjadhkhmhnccaa
open Go.RowKit Go.Proofs.Num
def chB (c : UInt8) : Bool := decide (33 ≤ c.toNat) && decide (c.toNat ≤ 126)
theorem all_take (l : List UInt8) (k : Nat) (h : k < l.length) : (l.take (k + 1)).all chB = ((l.take k).all chB && chB l[k]) := by
  rw [List.take_succ_eq_append_getElem h, List.all_append]; simp
theorem all_false (l : List UInt8) (k : Nat) (h : k < l.length) (hc : chB l[k] = false) : l.all chB = false := by
  rw [List.all_eq_false]; exact ⟨l[k], List.getElem_mem h, by rw [hc]; simp⟩
set_option maxRecDepth 100000 in
theorem cName (w : World) (s : ByteArray) (hs : s.size ≤ 1000000) : Calls Try.prog 100 #[.string s] w fun e w' => e = .returned (.bool (Fil.nameB s)) ∧ w = w' := by
  have hN : Fil.nameB s = (s.data.toList.all chB && Fil.withinB s.size 1 64) := by
    unfold Fil.nameB Fil.withinB
    rw [Bool.and_assoc]
    congr 2
    · simp only [decide_eq_decide]; omega
    · simp only [decide_eq_decide]; omega
  have HN := hid hN
  clear hN
  go_enter Try.func100, Try.ntmps100
  go_wp2_with fail
  go_loop [6] (fun i => ∃ k : Nat, k ≤ s.size ∧ i = .int .i64 k ∧ (s.data.toList.take k).all chB = true) (fun i => s.size - (intOf i).toNat)
  case atStart => exact ⟨0, Nat.zero_le _, rfl, rfl⟩
  case round =>
    obtain ⟨k, hk, rfl, hall⟩ := hrel
    have HA := hid hall
    clear hall
    by_cases hlt : k < s.size
    · have hl : k < s.data.toList.length := by simpa using hlt
      have hg : s.data.toList[k] = s[k] := rfl
      have hst := all_take s.data.toList k hl
      have hfl := all_false s.data.toList k hl
      rw [hg] at hst hfl
      have HST := hid hst
      have HFL := hid hfl
      clear hst hfl hg
      by_cases hc : 33 ≤ s[k].toNat ∧ s[k].toNat ≤ 126
      · have hcb : chB s[k] = true := by unfold chB; simp [hc]
        have HC := hid hcb
        have q1 : decide ((s[k].toNat : Int) < 33) = false := decide_eq_false (by omega)
        have q2 : decide (126 < (s[k].toNat : Int)) = false := decide_eq_false (by omega)
        clear hc hcb
        go_wp2_with fail
        go_round
        case rel => exact ⟨k + 1, by omega, by go_num, by rw [HST.out, HA.out, HC.out]; rfl⟩
        case measure => simp [intOf]; omega
      · have hcb : chB s[k] = false := by
          unfold chB
          by_cases q : 33 ≤ s[k].toNat
          · have : ¬ s[k].toNat ≤ 126 := fun h => hc ⟨q, h⟩
            simp [this]
          · simp [q]
        have HC := hid (HFL.out hcb)
        have q' : decide ((s[k].toNat : Int) < 33) = true ∨ (decide ((s[k].toNat : Int) < 33) = false ∧ decide (126 < (s[k].toNat : Int)) = true) := by
          simp only [decide_eq_true_eq, decide_eq_false_iff_not]; omega
        clear hc hcb
        rcases q' with q | ⟨q, q2⟩
        all_goals
          go_wp2_with fail
          go_ret
          exact ⟨ret_bool (by rw [HN.out, HC.out]; rfl), rfl⟩
    · have e : s.data.toList.take k = s.data.toList := List.take_of_length_le (by simp; omega)
      rw [e] at HA
      have HW := hid (cWithin w s.size 1 64)
      go_wp2_with fail
      refine HW.out.mono ?_
      rintro e w' ⟨rfl, rfl⟩
      go_wp2_with fail
      go_ret
      exact ⟨ret_bool (by rw [HN.out, HA.out, Bool.true_and]), rfl⟩
set_option maxRecDepth 100000 in
theorem cEmpty (w : World) (p : Fil.Pdu) : Calls Try.prog 98 #[.agg p.cells] w fun e w' => e = .returned (.bool p.emptyB) ∧ Below w.heap.size w w' := by
  obtain ⟨kind, src, num, cls, name, size, off, da, data, dc, sum, code, ga, gaps, gc⟩ := p
  have hE : Fil.Pdu.emptyB ⟨kind, src, num, cls, name, size, off, da, data, dc, sum, code, ga, gaps, gc⟩ = ((cls == 0) && name.toList.isEmpty && (size == 0) && (off == 0) && decide (data.length = 0) && decide (sum = 0) && (code == 0) && decide (gaps.length = 0)) := rfl
  rw [hE]
  clear hE
  unfold Fil.Pdu.cells
  simp only []
  generalize data.length = dl
  generalize gaps.length = gl
  have s5 : decide (dl = 0) = ((dl : Int) == 0) := by rw [Bool.eq_iff_iff]; simp
  have s6 : decide (sum = 0) = ((sum : Int) == 0) := by rw [Bool.eq_iff_iff]; simp
  have s8 : decide (gl = 0) = ((gl : Int) == 0) := by rw [Bool.eq_iff_iff]; simp
  rw [s5, s6, s8]
  clear s5 s6 s8
  rcases Bool.eq_false_or_eq_true (cls == 0) with h1 | h1
  all_goals (rw [h1]; simp only [Bool.true_and, Bool.false_and])
  · rcases Bool.eq_false_or_eq_true name.toList.isEmpty with h2 | h2
    all_goals (rw [h2]; simp only [Bool.true_and, Bool.false_and])
    · rcases Bool.eq_false_or_eq_true (size == 0) with h3 | h3
      all_goals (rw [h3]; simp only [Bool.true_and, Bool.false_and])
      · rcases Bool.eq_false_or_eq_true (off == 0) with h4 | h4
        all_goals (rw [h4]; simp only [Bool.true_and, Bool.false_and])
        · rcases Bool.eq_false_or_eq_true ((dl : Int) == 0) with h5 | h5
          all_goals (rw [h5]; simp only [Bool.true_and, Bool.false_and])
          · rcases Bool.eq_false_or_eq_true ((sum : Int) == 0) with h6 | h6
            all_goals (rw [h6]; simp only [Bool.true_and, Bool.false_and])
            · rcases Bool.eq_false_or_eq_true (code == 0) with h7 | h7
              all_goals (rw [h7]; simp only [Bool.true_and, Bool.false_and])
              all_goals
                go_enter Try.func98, Try.ntmps98
                go_wp2_with fail
                go_ret
                exact ⟨rfl, (Below.refl _ _).alloc (Nat.le_refl _) _⟩
            · go_enter Try.func98, Try.ntmps98
              go_wp2_with fail
              go_ret
              exact ⟨rfl, (Below.refl _ _).alloc (Nat.le_refl _) _⟩
          · go_enter Try.func98, Try.ntmps98
            go_wp2_with fail
            go_ret
            exact ⟨rfl, (Below.refl _ _).alloc (Nat.le_refl _) _⟩
        · go_enter Try.func98, Try.ntmps98
          go_wp2_with fail
          go_ret
          exact ⟨rfl, (Below.refl _ _).alloc (Nat.le_refl _) _⟩
      · go_enter Try.func98, Try.ntmps98
        go_wp2_with fail
        go_ret
        exact ⟨rfl, (Below.refl _ _).alloc (Nat.le_refl _) _⟩
    · go_enter Try.func98, Try.ntmps98
      go_wp2_with fail
      go_ret
      exact ⟨rfl, (Below.refl _ _).alloc (Nat.le_refl _) _⟩
  · go_enter Try.func98, Try.ntmps98
    go_wp2_with fail
    go_ret
    exact ⟨rfl, (Below.refl _ _).alloc (Nat.le_refl _) _⟩
end Go.Proofs.Ytfjadhkhmhnccaa
