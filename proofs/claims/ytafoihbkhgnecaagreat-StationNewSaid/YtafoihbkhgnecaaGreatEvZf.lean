/- An evaluator of the model's code: closed examples. -/
import Derived.Test.YtafoihbkhgnecaaGreatEvZe
import Derived.Below
set_option linter.unusedVariables false
set_option linter.unusedSimpArgs false
namespace Go.Ev
open Go.RowKit
variable {P : Program} {pr : Prims}
/-- A memory without blocks. -/
noncomputable def bare : H := T.mk .gone 20 1000000
def okB (r : RO) : Bool := match r with | .norm t _ _ => (match t with | .node v _ _ => (match v with | .bool b => b | _ => false) | _ => false) | _ => false
theorem bare_gone (b : Nat) : ¬ live bare b := fun h => h (by unfold bare; exact T.get_mk _ _ _ _)
/-- A function without arguments that returns true, by its evaluation. -/
theorem closed_ok (hm : P.follows .mixedOrders = true) (hpr : SoundPr P pr) (n f : Nat) (hk : okB (callV f [] P pr (run P pr n) bare 0 kid) = true) (w : World) : Calls P f #[] w (fun en w' => en = .returned (.bool true) ∧ Below w.heap.size w w') := by
  generalize hr : callV f [] P pr (run P pr n) bare 0 kid = r at hk
  have hgood : r.good := by
    cases r <;> first | trivial | (cases hk; done)
  obtain ⟨v, h', s', h1, h2⟩ := callV_ok hr hgood (run_sound hm hpr n) hpr
  obtain ⟨_, h3⟩ := h2 (fun _ => none) w [] .nil ⟨fun b hb => absurd hb (bare_gone b), fun b b' x x' hb => absurd hb (bare_gone b)⟩ (fun _ _ => rfl)
  refine Calls.mono h3 (fun en w' hq => ?_)
  obtain ⟨x, rfl, e', hv, p⟩ := hq
  have hvt : v = .bool true := by
    rw [← h1] at hk
    unfold kid okB at hk
    dsimp only at hk
    split at hk
    · rw [hk]
    · cases hk
  subst hvt
  cases hv
  exact ⟨rfl, p.os, p.tape, p.output, p.size, fun k hk => p.keep k hk (fun b x hb => absurd hb (bare_gone b))⟩
/-- No function by another way. -/
def noPr : Prims := fun _ => none
theorem noPr_ok : SoundPr P noPr := fun f g h => by cases h
/-- One function that ranges over a function which yields nothing. -/
noncomputable def rfPr (P : Program) (n F : Nat) : Prims := fun f => bif Nat.beq f F then some (rfV P noPr (run P noPr n) F) else none
theorem rfPr_ok (hm : P.follows .mixedOrders = true) (n F : Nat) : SoundPr P (rfPr P n F) := fun f g h => by
  unfold rfPr at h
  cases hf : Nat.beq f F with
  | false => rw [hf] at h; cases h
  | true =>
    rw [hf] at h
    simp only [cond_true] at h
    injection h with h
    have := Nat.eq_of_beq_eq_true hf
    subst this
    subst h
    intro args h s k hr
    exact rfV_ok (run_sound hm noPr_ok n) noPr_ok hr
end Go.Ev
