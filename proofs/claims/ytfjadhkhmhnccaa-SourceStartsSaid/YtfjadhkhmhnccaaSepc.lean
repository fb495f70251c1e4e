/- Slices that stay readable as long as an assertion's neighbours hold; rows that grow. No program in sight. -/
import Derived.Test.YtfjadhkhmhnccaaSepb
import Derived.Deep.AppendLies
set_option linter.unusedVariables false
namespace Go.Proofs.Num
open Go.RowKit
/-- The slice v reads as xs wherever the assertions l hold beside one more. -/
def Rds (W : World) (l : List HProp) (v : Value) (xs : List Value) : Prop := ∀ A w, Sts W (A :: l) w → Rd w v xs
theorem Rds.arg {W : World} {l : List HProp} {v : Value} {xs : List Value} (h : Rd W v xs) : Rds W l v xs := fun A w hs => h.below hs.below
theorem Rds.row {W : World} {l : List HProp} {e : TypeId} {v : Value} {n : Nat} {xs : List Value} (hn : xs.length = n) (h : rowP e 1 v n xs ∈ l) : Rds W l v xs := by
  intro A w hs
  obtain ⟨F, hr, _⟩ := hs.tail.mem h
  exact Rd.of_own hr hn
def RdsW (W : World) (l : List HProp) (v : Value) (xs : List Nat) : Prop := Rds W l v (u32s xs) ∧ ∀ x ∈ xs, x < 4294967296
def RdsB (W : World) (l : List HProp) (v : Value) (xs : List Nat) : Prop := Rds W l v (u8s xs) ∧ ∀ x ∈ xs, x < 256
theorem RdsW.at {W w : World} {l : List HProp} {A : HProp} {v : Value} {xs : List Nat} (h : RdsW W l v xs) (hs : Sts W (A :: l) w) : RdW w v xs := ⟨h.1 A w hs, h.2⟩
theorem RdsB.at {W w : World} {l : List HProp} {A : HProp} {v : Value} {xs : List Nat} (h : RdsB W l v xs) (hs : Sts W (A :: l) w) : RdB w v xs := ⟨h.1 A w hs, h.2⟩
theorem RdsW.arg {W : World} {l : List HProp} {v : Value} {xs : List Nat} (h : RdW W v xs) : RdsW W l v xs := ⟨Rds.arg h.1, h.2⟩
theorem RdsB.arg {W : World} {l : List HProp} {v : Value} {xs : List Nat} (h : RdB W v xs) : RdsB W l v xs := ⟨Rds.arg h.1, h.2⟩
/-- The row at the head has grown. -/
theorem Sts.grown {W w w1 : World} {l : List HProp} {e : TypeId} {v v' : Value} {n n' : Nat} {xs xs' : List Value} (hl : ∀ A ∈ l, Stable A) (h : Sts W (rowP e 1 v n xs :: l) w)
    (hg : w.grownBy w1 v.ownBlock) (ho : w1.ownsRow 0 e 1 v' n' xs') (hv : ∀ k, v'.ownBlock = some k → v.ownBlock = some k ∨ w.heap.size ≤ k) : Sts W (rowP e 1 v' n' xs' :: l) w1 := by
  obtain ⟨F, ⟨F1, F2, ⟨a, hF1⟩, r, hd, hF⟩, hb, hn⟩ := h
  have hs := stars_stable hl
  have hk : Keep F1 w w1 := Keep.of_grown hg (fun k hk _ => (hF1 k).2 hk)
  refine ⟨fun k => v'.ownBlock = some k ∨ F2 k, ⟨fun k => v'.ownBlock = some k, F2, ⟨ho, fun k => Iff.rfl⟩, hs.keep r hk (fun k h2 h1 => hd k h1 h2), ?_, fun k => Iff.rfl⟩, ?_, ?_⟩
  · intro k h1 h2
    rcases hv k h1 with h | h
    · exact hd k ((hF1 k).2 h) h2
    · have := hs.dom r k h2; omega
  · exact hb.grown hg hb.size (fun k hk => hn k ((hF k).2 (Or.inl ((hF1 k).2 hk))))
  · rintro k (h | h)
    · rcases hv k h with h' | h'
      · exact hn k ((hF k).2 (Or.inl ((hF1 k).2 h')))
      · have := hb.size; omega
    · exact hn k ((hF k).2 (Or.inr h))
theorem Sts.rowOwn {W w : World} {l : List HProp} {e : TypeId} {v : Value} {n : Nat} {xs : List Value} (h : Sts W (rowP e 1 v n xs :: l) w) : w.ownsRow 0 e 1 v n xs := by
  obtain ⟨F, a, _⟩ := h.head; exact a
/-- An empty row. -/
theorem Sts.rowNil {W w : World} {l : List HProp} (e : TypeId) (h : Sts W l w) : Sts W (rowP e 1 (.slice none 0 0) 0 [] :: l) w := by
  obtain ⟨F, a, b, c⟩ := h
  exact ⟨F, ⟨fun _ => False, F, ⟨⟨by simp, Or.inl ⟨rfl, rfl⟩⟩, fun k => by simp [Value.ownBlock]⟩, a, fun _ h => h.elim, fun k => by simp⟩, b, c⟩
/-- A new block that nobody keeps. -/
theorem Sts.box {W w : World} {l : List HProp} (hl : ∀ A ∈ l, Stable A) (h : Sts W l w) (o : Obj) : Sts W l (w.alloc o) := h.quiet hl ((Below.refl _ _).alloc (Nat.le_refl _) _)
end Go.Proofs.Num
