/- Integers as bytes, most significant first. No program in sight. -/
import Derived.Test.YtdboplkgnnidcaaPatMath
set_option linter.unusedVariables false
namespace Oct
def be : Nat → Nat → List Nat
  | 0, _ => []
  | n + 1, x => (x / 2 ^ (8 * n) % 256) :: be n x
theorem be_len (n x : Nat) : (be n x).length = n := by
  induction n with
  | zero => rfl
  | succ n ih => simp [be, ih]
theorem be_lt (n x : Nat) : ∀ y ∈ be n x, y < 256 := by
  induction n with
  | zero => intro y hy; simp [be] at hy
  | succ n ih =>
    intro y hy
    simp only [be, List.mem_cons] at hy
    rcases hy with rfl | hy
    · exact Nat.mod_lt _ (by decide)
    · exact ih y hy
theorem be_four (x : Nat) : be 4 x = Pat.be4 x := by simp [be, Pat.be4]
end Oct
