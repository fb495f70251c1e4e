/- The steps of the memory's laws: what a sequence of them does; how a slice holds them. -/
import Derived.Test.YtigefaacknlkoaaMemStep
set_option linter.unusedVariables false
namespace Ecc
theorem mstep_len (ws : List Nat) (c k : Nat) (a n : Int) (v : Nat) : (mstep ws c k a n v).1.length = ws.length := by
  unfold mstep mwrite mflip mscrub mread
  split
  · split <;> simp
  · split
    · split <;> simp
    · split
      · split
        · rfl
        · exact scr_len _ _ _ _
      · split
        · rfl
        · split
          · rfl
          · exact rpr_len _ _ _
theorem mstep_cnt (ws : List Nat) (c k : Nat) (a n : Int) (v : Nat) : (mstep ws c k a n v).2 ≤ c + ws.length + 1 := by
  unfold mstep mwrite mflip mscrub mread
  split
  · show c ≤ _; omega
  · split
    · show c ≤ _; omega
    · split
      · split
        · show c ≤ _; omega
        · have h := scr_cnt ws c a.toNat (rounds ws n)
          have : rounds ws n ≤ ws.length := by unfold rounds; omega
          omega
      · split
        · show c ≤ _; omega
        · split
          · show c ≤ _; omega
          · have := (rpr_cnt ws c a.toNat).1
            show (rpr ws c a.toNat).2.2 ≤ _; omega
abbrev Step := Nat × Int × Int × Nat
def play : List Nat → Nat → List Step → List Nat × Nat
  | ws, c, [] => (ws, c)
  | ws, c, s :: l => play (mstep ws c s.1 s.2.1 s.2.2.1 s.2.2.2).1 (mstep ws c s.1 s.2.1 s.2.2.1 s.2.2.2).2 l
theorem play_snoc (ws : List Nat) (c : Nat) (l : List Step) (s : Step) : play ws c (l ++ [s]) = mstep (play ws c l).1 (play ws c l).2 s.1 s.2.1 s.2.2.1 s.2.2.2 := by
  induction l generalizing ws c with
  | nil => rfl
  | cons t l ih => exact ih _ _
theorem play_len (ws : List Nat) (c : Nat) (l : List Step) : (play ws c l).1.length = ws.length := by
  induction l generalizing ws c with
  | nil => rfl
  | cons s l ih => simp only [play]; rw [ih, mstep_len]
theorem play_cnt (ws : List Nat) (c : Nat) (l : List Step) : (play ws c l).2 ≤ c + l.length * (ws.length + 1) := by
  induction l generalizing ws c with
  | nil => simp [play]
  | cons s l ih =>
    simp only [play, List.length_cons]
    have h1 := ih (mstep ws c s.1 s.2.1 s.2.2.1 s.2.2.2).1 (mstep ws c s.1 s.2.1 s.2.2.1 s.2.2.2).2
    have h2 := mstep_cnt ws c s.1 s.2.1 s.2.2.1 s.2.2.2
    rw [mstep_len] at h1
    have h3 : (l.length + 1) * (ws.length + 1) = l.length * (ws.length + 1) + (ws.length + 1) := by rw [Nat.add_mul]; omega
    omega
theorem play_take (ws : List Nat) (c : Nat) (l : List Step) (k : Nat) (h : k < l.length) :
    play ws c (l.take (k + 1)) = mstep (play ws c (l.take k)).1 (play ws c (l.take k)).2 l[k].1 l[k].2.1 l[k].2.2.1 l[k].2.2.2 := by
  rw [List.take_succ_eq_append_getElem h, play_snoc]
end Ecc
namespace Go.Proofs.Ytigefaacknlkoaa
open Go.RowKit Go.Proofs.Num
/-- The slice v reads as the steps S. -/
structure StepsAt (w : World) (v : Value) (S : List Ecc.Step) : Prop where
  shape : (S = [] ∧ ∃ a cap, v = .slice a 0 cap) ∨ ∃ b off cap, v = .slice (some ⟨b, off, none⟩) S.length cap ∧ b < w.heap.size ∧ ∀ j, (h : j < S.length) →
    w.cell? ⟨b, off + j * 4, none⟩ = some (.int .u8 S[j].1) ∧ w.cell? ⟨b, off + j * 4 + 1, none⟩ = some (.int .i64 S[j].2.1) ∧
    w.cell? ⟨b, off + j * 4 + 2, none⟩ = some (.int .i64 S[j].2.2.1) ∧ w.cell? ⟨b, off + j * 4 + 3, none⟩ = some (.int .u32 S[j].2.2.2)
  wf : ∀ s ∈ S, s.1 < 256 ∧ s.2.2.2 < 4294967296
theorem StepsAt.open {w : World} {v : Value} {S : List Ecc.Step} (h : StepsAt w v S) : ∃ A cap, v = .slice A S.length cap ∧ ∀ j, (h : j < S.length) → ∃ b off, A = some ⟨b, off, none⟩ ∧ b < w.heap.size ∧
    w.cell? ⟨b, off + j * 4, none⟩ = some (.int .u8 S[j].1) ∧ w.cell? ⟨b, off + j * 4 + 1, none⟩ = some (.int .i64 S[j].2.1) ∧
    w.cell? ⟨b, off + j * 4 + 2, none⟩ = some (.int .i64 S[j].2.2.1) ∧ w.cell? ⟨b, off + j * 4 + 3, none⟩ = some (.int .u32 S[j].2.2.2) := by
  rcases h.shape with ⟨rfl, a, cap, rfl⟩ | ⟨b, off, cap, rfl, hb, hc⟩
  · exact ⟨a, cap, rfl, fun j hj => absurd hj (by simp)⟩
  · exact ⟨_, cap, rfl, fun j hj => ⟨b, off, rfl, hb, hc j hj⟩⟩
def StepCells (w : World) (b o : Nat) (s : Ecc.Step) : Prop := w.cell? ⟨b, o, none⟩ = some (.int .u8 s.1) ∧ w.cell? ⟨b, o + 1, none⟩ = some (.int .i64 s.2.1) ∧
    w.cell? ⟨b, o + 2, none⟩ = some (.int .i64 s.2.2.1) ∧ w.cell? ⟨b, o + 3, none⟩ = some (.int .u32 s.2.2.2)
theorem StepCells.below {w w' : World} {b o : Nat} {s : Ecc.Step} (h : StepCells w b o s) (hb : b < w.heap.size) (k : Below w.heap.size w w') : StepCells w' b o s := by
  obtain ⟨h0, h1, h2, h3⟩ := h
  exact ⟨by rw [k.cell hb]; exact h0, by rw [k.cell hb]; exact h1, by rw [k.cell hb]; exact h2, by rw [k.cell hb]; exact h3⟩
end Go.Proofs.Ytigefaacknlkoaa
