/- Rows that a call has just made. -/
import Derived.Test.YtdboplkgnnidcaaSepc
import Derived.Test.YtdboplkgnnidcaaPatFns
import Derived.Maps.AppendAt
set_option linter.unusedVariables false
set_option linter.unusedSimpArgs false
namespace Go.Proofs.Ytdboplkgnnidcaa
open Go.RowKit Go.Proofs.Num
theorem own_at {w : World} {e : TypeId} {g n cap B : Nat} {xs : List Value} (h : w.ownsRow 0 e 1 (.slice (some ⟨g, 0, none⟩) n cap) n xs) (hB : B ≤ g) : w.ownsRow B e 1 (.slice (some ⟨g, 0, none⟩) n cap) n xs := by
  obtain ⟨h1, h2⟩ := h
  refine ⟨h1, ?_⟩
  rcases h2 with ⟨h2, _⟩ | ⟨g', cap', cur, hv, _, r⟩
  · cases h2
  · have hg : g = g' := by injection hv with hv; injection hv with hv; injection hv
    exact Or.inr ⟨g', cap', cur, hv, by omega, r⟩
theorem made_new {w w1 : World} {n : Nat} (hown : w1.ownsRow 0 48 1 (.slice (some ⟨w.heap.size, 0, none⟩) n n) n (madeCells (Value.int IntKind.u32 0).cells (n * 1)).toList) (hgr : w.grownBy w1 none) :
    New w w1 48 (.slice (some ⟨w.heap.size, 0, none⟩) n n) (u32s (List.replicate n 0)) := by
  have e : (madeCells (Value.int IntKind.u32 0).cells (n * 1)).toList = u32s (List.replicate n 0) := by
    show (madeCells #[Value.int IntKind.u32 0] (n * 1)).toList = _
    rw [toList_madeCells_one]; simp [u32s]
  rw [e] at hown
  refine ⟨?_, (Below.refl _ _).grown hgr (Nat.le_refl _) (by intro k hk; simp at hk)⟩
  rw [show (u32s (List.replicate n 0)).length = n by simp [u32s]]
  exact own_at hown (Nat.le_refl _)
theorem own_nonnil {w : World} {b : Nat} {e : TypeId} {v : Value} {n : Nat} {xs : List Value} (h : w.ownsRow b e 1 v n xs) (hn : 1 ≤ n) : ∃ g cap, v = .slice (some ⟨g, 0, none⟩) n cap := by
  rcases h.2 with ⟨_, h2⟩ | ⟨g, cap, cur, hv, _⟩
  · omega
  · exact ⟨g, cap, hv⟩
end Go.Proofs.Ytdboplkgnnidcaa
