/- slices.Equal of two rows of words. -/
import Derived.Test.YtdboplkgnnidcaaVltFns
import Derived.Deep.QuietTactic
import Derived.BigQuiet
set_option linter.unusedVariables false
namespace Go.Proofs.Ytdboplkgnnidcaa
open Go.RowKit Go.Proofs.Num
theorem below_drewN {B : Nat} {a w : World} (h : Below B a w) (n : Nat) : Below B a (w.drewN n) := ⟨h.os, h.tape, h.output, h.size, h.block⟩
theorem take_succ_ne {l m : List Nat} (k : Nat) (h1 : k < l.length) (h2 : k < m.length) (h : l[k] ≠ m[k]) : l ≠ m := by
  intro e; subst e; exact h rfl
set_option maxRecDepth 100000 in
theorem cEqual (w : World) (v1 v2 : Value) (l m : List Nat) (h1 : RdW w v1 l) (h2 : RdW w v2 m) (hn : l.length < 100000000) :
    Calls Try.prog 76 #[v1, v2] w fun e w' => e = .returned (.bool (decide (l = m))) ∧ Below w.heap.size w w' := by
  obtain ⟨a, cap, rfl, hx⟩ := h1.open
  obtain ⟨b, cap2, rfl, hy⟩ := h2.open
  have HX := hid hx
  have HY := hid hy
  clear h1 h2 hx hy
  by_cases hl : l.length = m.length
  · rw [← hl]
    go_enter Try.func76, Try.ntmps76
    go_wp2_with fail
    go_loopw [13] (fun i wr => ∃ k : Nat, k ≤ l.length ∧ i = .int .i64 k ∧ l.take k = m.take k ∧ Below w.heap.size w wr) (fun i _ => l.length - (intOf i).toNat)
    case atStart => exact ⟨0, by omega, rfl, rfl, Below.refl _ _⟩
    case round =>
      obtain ⟨k, hk, rfl, he, hbel⟩ := hrel
      have HE := hid he
      clear he
      by_cases hlt : k < l.length
      · have hlt2 : k < m.length := by omega
        obtain ⟨b1, o1, rfl, hb1, hc1⟩ := HX.out k hlt
        obtain ⟨b2, o2, rfl, hb2, hc2⟩ := HY.out k hlt2
        rw [← hbel.cell hb1] at hc1
        rw [← hbel.cell hb2] at hc2
        have HT : Hid (l[k] = m[k] → l.take (k + 1) = m.take (k + 1)) := by
          refine hid fun h => ?_
          rw [List.take_succ_eq_append_getElem hlt, List.take_succ_eq_append_getElem hlt2, h, HE.out]
        have HN : Hid (l[k] ≠ m[k] → l ≠ m) := hid (take_succ_ne k hlt hlt2)
        generalize l[k] = x at *
        generalize m[k] = y at *
        by_cases hxy : (x : Int) = (y : Int)
        · go_wp2_with fail
          go_quiet (fail)
          go_wp2_with fail
          go_roundw
          case rel => exact ⟨k + 1, by omega, by go_num, HT.out (by omega), below_drewN hbel _⟩
          case measure => simp [intOf]; omega
        · go_wp2_with fail
          go_quiet (fail)
          go_wp2_with fail
          go_ret
          have := HN.out (by omega)
          exact ⟨by simp [this], below_drewN hbel _⟩
      · have e : l = m := by
          have := HE.out
          rwa [List.take_of_length_le (by omega), List.take_of_length_le (by omega)] at this
        have H1 := hid e
        clear e
        go_wp2_with fail
        go_ret
        exact ⟨by simp [H1.out], hbel⟩
  · have hne : (l.length : Int) ≠ (m.length : Int) := by omega
    go_enter Try.func76, Try.ntmps76
    go_wp2_with fail
    go_ret
    have : l ≠ m := fun e => hl (by rw [e])
    exact ⟨by simp [this], Below.refl _ _⟩
end Go.Proofs.Ytdboplkgnnidcaa
