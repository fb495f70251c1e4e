/- An evaluator of the model's code: closed examples. -/
import Derived.Test.YtnklmadmenkdoaaGreatEvZe
import Derived.Below
set_option linter.unusedVariables false
set_option linter.unusedSimpArgs false
namespace Go.Ev
open Go.RowKit
variable {P : Program} {pr : Prims}
/-- A memory without blocks. -/
noncomputable def bare : H := T.mk .gone 20 1000000
noncomputable def okB (r : RO) : Bool :=
  RO.rec (motive := fun _ => Bool) (fun t _ _ => match t with | .node v _ _ => (match v with | .bool b => b | _ => false) | _ => false) (fun _ _ _ _ => false) (fun _ _ _ => false) (fun _ => false) (fun _ _ a b => bif a then b else false) r
theorem okB_good : ∀ {r : RO}, okB r = true → r.good
  | .norm .., _ => trivial
  | .exit .., h => by cases h
  | .ret .., h => by cases h
  | .err _, h => by cases h
  | .or a b, h => by
    change (bif okB a then okB b else false) = true at h
    cases ha : okB a with
    | false => rw [ha] at h; cases h
    | true => rw [ha] at h; exact ⟨okB_good ha, okB_good h⟩
theorem okB_sub {x r : RO} (h : Sub x r) (hr : okB r = true) : okB x = true := by
  induction h with
  | refl => exact hr
  | @left a b _ ih =>
    change (bif okB a then okB b else false) = true at hr
    cases ha : okB a with
    | false => rw [ha] at hr; cases hr
    | true => exact ih ha
  | @right a b _ ih =>
    change (bif okB a then okB b else false) = true at hr
    cases ha : okB a with
    | false => rw [ha] at hr; cases hr
    | true => rw [ha] at hr; exact ih hr
theorem okB_kid {v : V} {h : H} {s : Nat} (hk : okB (kid v h s) = true) : v = .bool true := by
  cases v
  case bool b => have hb : b = true := hk; rw [hb]
  all_goals exact absurd (show (false : Bool) = true from hk) (by decide)
theorem bare_gone (b : Nat) : ¬ live bare b := fun h => h (by unfold bare; exact T.get_mk _ _ _ _)
/-- A function that returns true whatever its arguments within what is known of them, by its evaluation. -/
theorem open_ok (hm : P.follows .mixedOrders = true) (hpr : SoundPr P pr) (n f : Nat) (args : List V) (hk : okB (callV f args P pr (run P pr n) bare 0 kid) = true) (w : World) (xs : List Value) (hx : VRs (fun _ => none) args xs) :
    Calls P f ⟨xs⟩ w (fun en w' => en = .returned (.bool true) ∧ Below w.heap.size w w') := by
  generalize hr : callV f args P pr (run P pr n) bare 0 kid = r at hk
  obtain ⟨_, h3⟩ := callV_ok hr (okB_good hk) (run_sound hm hpr n) hpr (fun _ => none) w xs hx ⟨fun b hb => absurd hb (bare_gone b), fun b b' x x' hb => absurd hb (bare_gone b)⟩ (fun _ _ => rfl)
  refine Calls.mono h3 (fun en w' hq => ?_)
  obtain ⟨x, rfl, v, h', s', hsub, e', hv, p⟩ := hq
  have hvt := okB_kid (okB_sub hsub hk)
  subst hvt
  cases hv
  exact ⟨rfl, p.os, p.tape, p.output, p.size, fun k hk => p.keep k hk (fun b x hb => absurd hb (bare_gone b))⟩
/-- A function without arguments. -/
theorem closed_ok (hm : P.follows .mixedOrders = true) (hpr : SoundPr P pr) (n f : Nat) (hk : okB (callV f [] P pr (run P pr n) bare 0 kid) = true) (w : World) : Calls P f #[] w (fun en w' => en = .returned (.bool true) ∧ Below w.heap.size w w') :=
  open_ok hm hpr n f [] hk w [] .nil
/-- No function by another way. -/
def noPr : Prims := fun _ => none
theorem noPr_ok : SoundPr P noPr := fun f g h => by cases h
/-- One function that ranges over a function. -/
noncomputable def rfPr (P : Program) (n F : Nat) : Prims := fun f => bif Nat.beq f F then some (rfV P noPr (run P noPr n) F) else none
theorem rfPr_ok (hm : P.follows .mixedOrders = true) (n F : Nat) : SoundPr P (rfPr P n F) := fun f g h => by
  unfold rfPr at h
  cases hf : Nat.beq f F with
  | false => rw [hf] at h; cases h
  | true =>
    rw [hf] at h
    simp only [cond_true] at h
    injection h with h
    have := Nat.eq_of_beq_eq_true hf
    subst this
    subst h
    intro args h s k hr
    exact rfV_ok (run_sound hm noPr_ok n) noPr_ok hr
end Go.Ev
