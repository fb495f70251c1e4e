/- An evaluator of the model's code: functions that are known to return true, as operations. -/
import Derived.Test.YtnklmadmenkdoaaGreatEvZf
set_option linter.unusedVariables false
set_option linter.unusedSimpArgs false
namespace Go.Ev
open Go.RowKit
variable {P : Program} {pr : Prims} {e : Env} {h : H} {s : Nat} {w : World}
/-- What turns nothing that was there, and makes nothing that is known. -/
theorem Post.below {w' : World} (hs : Sim e h w) (hf : Free e s) (hb : Below w.heap.size w w') : Post e s h w e s h w' where
  le := Env.le.refl e
  low := fun _ _ => rfl
  up := Nat.le_refl _
  free := hf
  sim := ⟨fun b hl => by
    obtain ⟨x, o, g1, g2, g3⟩ := hs.blk b hl
    refine ⟨x, o, g1, ?_, g3⟩
    rw [hb.block _ (Array.getElem?_eq_some_iff.1 g2).1]; exact g2, hs.inj⟩
  dom := fun b x hl hx => .inl ⟨b, x, hl, hx, rfl⟩
  keep := fun n hn _ => hb.block n hn
  size := hb.size
  os := hb.os
  tape := hb.tape
  output := hb.output
def isFn (P : Program) (F : Nat) : Bool := match fnOf P F with | .fn _ _ _ => true | _ => false
/-- A function without arguments that is known to return true. -/
noncomputable def tuPr (F : Nat) (pr : Prims) : Prims := fun f => bif Nat.beq f F then some (fun l h s k => match l with | [] => k (.bool true) h s | _ => .err 210) else pr f
theorem tuPr_ok {F : Nat} (hF : isFn P F = true) (hc : ∀ w, Calls P F #[] w (fun en w' => en = .returned (.bool true) ∧ Below w.heap.size w w')) (hpr : SoundPr P pr) : SoundPr P (tuPr F pr) := fun f g h => by
  unfold tuPr at h
  cases hf : Nat.beq f F with
  | false => rw [hf] at h; exact hpr f g h
  | true =>
    rw [hf] at h
    simp only [cond_true] at h
    injection h with h
    have := Nat.eq_of_beq_eq_true hf
    subst this
    subst h
    intro args h s k hr e w xs hx hs hf'
    unfold isFn at hF
    split at hF
    · rename_i c n rs hfn
      obtain ⟨_, _, _, _, _, g5⟩ := fnOf_ok hfn
      cases hx with
      | nil => exact ⟨g5 _ _, Calls.mono (hc w) (fun en w' hq => ⟨.bool true, hq.1, .bool true, h, s, .refl _, e, .bool _, Post.below hs hf' hq.2⟩)⟩
      | cons _ _ => exact hr.elim
    · cases hF
end Go.Ev
