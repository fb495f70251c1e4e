/- The contracts of two functions of byte strings: whether a bit is set, and the sum of a file. -/
import Derived.Test.YtgidckkcibplgaaGreatProg
import Derived.Test.YtgidckkcibplgaaGreatKeep
import Derived.Test.YtgidckkcibplgaaGreatSepc
import Derived.Test.YtgidckkcibplgaaGreatEvK2
import Derived.IntWalk
import Derived.Laws.BitsAllLaws
import Derived.Outline
set_option linter.unusedVariables false
set_option linter.unusedSimpArgs false
namespace Go.Proofs.YtgidckkcibplgaaGreat
open Go.RowKit Go.Proofs.Num
theorem u32_stepX (a x p : Nat) : ∃ z : Int, IntKind.u32.wrap ((a : Int) + ((x * p : Nat) : Int)) = z := ⟨_, rfl⟩
set_option maxRecDepth 100000 in
theorem cPieceX (w : World) (v : Value) (l : List Nat) (h : Go.Ev.RdX w v l) (hn : l.length < 10000000) : Calls Tryz.prog 209 #[.int .i64 0, v] w fun e w' => (∃ n, e = .returned (.int .u32 n)) ∧ w = w' := by
  obtain ⟨a, cap, rfl, hx⟩ := h.1
  have HX := hid hx
  have HB := hid h.2
  clear h hx
  go_enter Tryz.func209, Tryz.ntmps209
  go_wp2_with fail
  go_loop [5, 13] (fun z i => (∃ k : Nat, k ≤ l.length ∧ i = .int .i64 k) ∧ ∃ n, z = .int .u32 n) (fun _ i => l.length - (intOf i).toNat)
  case atStart => exact ⟨⟨0, by omega, rfl⟩, _, rfl⟩
  case round =>
    obtain ⟨⟨k, hk, rfl⟩, acc, rfl⟩ := hrel
    by_cases hlt : k < l.length
    · obtain ⟨b, off, rfl, hb, c0⟩ := HX.out k hlt
      have hxb := HB.out _ (List.getElem_mem hlt)
      generalize l[k] = x at *
      have hr4 : (k : Int) % 4 = 0 ∨ (k : Int) % 4 = 1 ∨ (k : Int) % 4 = 2 ∨ (k : Int) % 4 = 3 := by omega
      rcases hr4 with h2 | h2 | h2 | h2
      all_goals
        go_wp2_with fail
        go_round
        case rel => exact ⟨⟨k + 1, by omega, by go_num⟩, _, rfl⟩
        case measure => simp [intOf]; omega
    · obtain rfl : k = l.length := by omega
      go_wp2_with fail
      go_ret
      exact ⟨⟨_, rfl⟩, rfl⟩
theorem cSumX (w : World) (v : Value) (l : List Nat) (h : Go.Ev.RdX w v l) (hn : l.length < 10000000) : Calls Tryz.prog 168 #[v] w fun e w' => (∃ n, e = .returned (.int .u32 n)) ∧ w = w' := by
  have HP := hid (cPieceX w v l h hn)
  go_enter Tryz.func168, Tryz.ntmps168
  go_wp2_with fail
  refine HP.out.mono ?_
  rintro e w' ⟨⟨n, rfl⟩, rfl⟩
  go_wp2_with fail
  go_ret
  exact ⟨⟨_, rfl⟩, rfl⟩
def LostE (n i : Nat) (e : Ending) : Prop := ∃ b, e = .returned (.bool b) ∧ (8 * n ≤ i → b = false)
set_option maxRecDepth 100000 in
theorem cLostX (w : World) (v : Value) (l : List Nat) (i : Nat) (h : Go.Ev.RdX w v l) (hi : i < 10000000) (hn : l.length < 10000000) : Calls Tryz.prog 31 #[v, .int .i64 (i : Nat)] w fun e w' => LostE l.length i e ∧ w = w' := by
  obtain ⟨a, cap, rfl, hx⟩ := h.1
  have HX := hid hx
  have HB := hid h.2
  clear h hx
  by_cases hlt : i / 8 < l.length
  · obtain ⟨b, off, rfl, hb, c0⟩ := HX.out (i / 8) hlt
    have hxb := HB.out _ (List.getElem_mem hlt)
    generalize l[i / 8] = x at *
    have hlt8 : ¬ 8 * l.length ≤ i := by omega
    obtain ⟨q, hq⟩ : ∃ q : Nat, q = i / 8 := ⟨_, rfl⟩
    have hqi : (i : Int) / 8 = (q : Int) := by omega
    have hq2 : (q : Int) < (l.length : Int) := by omega
    rw [← hq] at c0
    clear hq hlt
    have hr8 : (i : Int) % 8 = 0 ∨ (i : Int) % 8 = 1 ∨ (i : Int) % 8 = 2 ∨ (i : Int) % 8 = 3 ∨ (i : Int) % 8 = 4 ∨ (i : Int) % 8 = 5 ∨ (i : Int) % 8 = 6 ∨ (i : Int) % 8 = 7 := by omega
    rcases hr8 with h2 | h2 | h2 | h2 | h2 | h2 | h2 | h2
    all_goals
      go_enter Tryz.func31, Tryz.ntmps31
      go_wp2_with fail
      go_ret
      exact ⟨⟨_, rfl, fun hh => absurd hh hlt8⟩, rfl⟩
  · obtain ⟨q, hq⟩ : ∃ q : Nat, q = i / 8 := ⟨_, rfl⟩
    have hqi : (i : Int) / 8 = (q : Int) := by omega
    have hq2 : ¬ (q : Int) < (l.length : Int) := by omega
    clear hq hlt
    go_enter Tryz.func31, Tryz.ntmps31
    go_wp2_with fail
    go_ret
    exact ⟨⟨_, rfl, fun _ => rfl⟩, rfl⟩
end Go.Proofs.YtgidckkcibplgaaGreat
