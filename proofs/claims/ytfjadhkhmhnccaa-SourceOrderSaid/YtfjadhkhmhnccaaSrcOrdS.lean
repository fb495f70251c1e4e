/- One call of Next, its outcome known. -/
import Derived.Test.YtfjadhkhmhnccaaSrcOrdA
import Derived.Test.YtfjadhkhmhnccaaSrcSml
import Derived.Test.YtfjadhkhmhnccaaSrcLivB
set_option linter.unusedVariables false
set_option linter.unusedSimpArgs false
namespace Go.Proofs.Ytfjadhkhmhnccaa
open Go.RowKit Go.Proofs.Num Go.ChangeShapes
/-- One call of Next, its outcome known. -/
theorem stepU {W w : World} {l : List HProp} (hl : ∀ B ∈ l, Stable B) (q : Nat) (s : Fil.Src) (h : Sts W (srcP q s :: l) w) (hG : Fil.Good s) (now : Int) (s' : Fil.Src) (u : Fil.U) (s1 : Fil.Src) (he : s.nextV now = (s', u)) (hp : s.pass now = s1) :
    Calls Try.prog 20 #[.pointer (some ⟨q, 0, none⟩), .int .i64 now] w fun e w' => ∃ pa pc, e = .returned (.tuple #[.agg (u.pdu s1 pa pc).cells, .bool u.is]) ∧ Sts W (srcP q s' :: rowU pa pc (u.data s1) :: l) w' := by
  have h := cNext hl q s h hG now
  rw [he, hp] at h
  exact h
end Go.Proofs.Ytfjadhkhmhnccaa
