/- An evaluator of the model's code: closed examples. An evaluator of the model's code: functions that are known to return true, as operations. -/
import Derived.Test.YtgidckkcibplgaaGreatEvZe
import Derived.Below
set_option linter.unusedVariables false
set_option linter.unusedSimpArgs false
namespace Go.Ev
open Go.RowKit
variable {P : Program} {pr : Prims}
/-- A memory without blocks. -/
noncomputable def bare : H := T.mk .gone 20 1000000
noncomputable def okB (r : RO) : Bool :=
  RO.rec (motive := fun _ => Bool) (fun t _ _ => match t with | .node v _ _ => (match v with | .bool b => b | _ => false) | _ => false) (fun _ _ _ _ => false) (fun _ _ _ => false) (fun _ => false) (fun _ _ a b => bif a then b else false) r
theorem okB_good : ∀ {r : RO}, okB r = true → r.good
  | .norm .., _ => trivial
  | .exit .., h => by cases h
  | .ret .., h => by cases h
  | .err _, h => by cases h
  | .or a b, h => by
    change (bif okB a then okB b else false) = true at h
    cases ha : okB a with
    | false => rw [ha] at h; cases h
    | true => rw [ha] at h; exact ⟨okB_good ha, okB_good h⟩
theorem okB_sub {x r : RO} (h : Sub x r) (hr : okB r = true) : okB x = true := by
  induction h with
  | refl => exact hr
  | @left a b _ ih =>
    change (bif okB a then okB b else false) = true at hr
    cases ha : okB a with
    | false => rw [ha] at hr; cases hr
    | true => exact ih ha
  | @right a b _ ih =>
    change (bif okB a then okB b else false) = true at hr
    cases ha : okB a with
    | false => rw [ha] at hr; cases hr
    | true => rw [ha] at hr; exact ih hr
theorem okB_kid {v : V} {h : H} {s : Nat} (hk : okB (kid v h s) = true) : v = .bool true := by
  cases v
  case bool b => have hb : b = true := hk; rw [hb]
  all_goals exact absurd (show (false : Bool) = true from hk) (by decide)
/-- Nothing is known but what was there. -/
def env0 (B : Base) : Env := ⟨fun _ => none, B⟩
/-- What was there before a run. -/
structure BaseAt (B : Base) (w : World) : Prop where
  lim : ∀ n, B.prot n → n < w.heap.size
  old : ∀ n, n < w.heap.size → w.heap[n]? = B.w0 n
theorem noBase_at (w : World) : BaseAt (noBase w) w := ⟨fun _ h => h, fun _ _ => rfl⟩
theorem bare_gone (b : Nat) : ¬ live bare b := fun h => h (by unfold bare; exact T.get_mk _ _ _ _)
theorem bare_sim {B : Base} {w : World} (hB : BaseAt B w) : Sim (env0 B) bare w :=
  ⟨fun b hb => absurd hb (bare_gone b), fun b b' x x' hb => absurd hb (bare_gone b), hB.lim, fun n hn => hB.old n (hB.lim n hn), fun b x hb => absurd hb (bare_gone b)⟩
/-- A function that returns true whatever its arguments within what is known of them, by its evaluation. -/
theorem open_ok (hm : P.follows .mixedOrders = true) (hpr : SoundPr P pr) (n f : Nat) (args : List V) (hk : okB (callV f args P pr (run P pr n) bare 0 kid) = true) (w : World) (xs : List Value) (B : Base) (hB : BaseAt B w) (hx : VRs (env0 B) args xs) :
    Calls P f ⟨xs⟩ w (fun en w' => en = .returned (.bool true) ∧ Below w.heap.size w w') := by
  generalize hr : callV f args P pr (run P pr n) bare 0 kid = r at hk
  obtain ⟨_, h3⟩ := callV_ok hr (okB_good hk) (run_sound hm hpr n) hpr (env0 B) w xs hx (bare_sim hB) (fun _ _ => rfl)
  refine Calls.mono h3 (fun en w' hq => ?_)
  obtain ⟨x, rfl, v, h', s', hsub, e', hv, p⟩ := hq
  have hvt := okB_kid (okB_sub hsub hk)
  subst hvt
  cases hv
  exact ⟨rfl, p.os, p.tape, p.output, p.size, fun k hk => p.keep k hk (fun b x hb => absurd hb (bare_gone b))⟩
/-- A function without arguments. -/
theorem closed_ok (hm : P.follows .mixedOrders = true) (hpr : SoundPr P pr) (n f : Nat) (hk : okB (callV f [] P pr (run P pr n) bare 0 kid) = true) (w : World) : Calls P f #[] w (fun en w' => en = .returned (.bool true) ∧ Below w.heap.size w w') :=
  open_ok hm hpr n f [] hk w [] (noBase w) (noBase_at w) .nil
/-- No function by another way. -/
def noPr : Prims := fun _ => none
theorem noPr_ok : SoundPr P noPr := fun f g h => by cases h
/-- One function that ranges over a function. -/
noncomputable def rfPr (P : Program) (n F : Nat) : Prims := fun f => bif Nat.beq f F then some (rfV P noPr (run P noPr n) F) else none
theorem rfPr_ok (hm : P.follows .mixedOrders = true) (n F : Nat) : SoundPr P (rfPr P n F) := fun f g h => by
  unfold rfPr at h
  cases hf : Nat.beq f F with
  | false => rw [hf] at h; cases h
  | true =>
    rw [hf] at h
    simp only [cond_true] at h
    injection h with h
    have := Nat.eq_of_beq_eq_true hf
    subst this
    subst h
    intro args h s k hr
    exact rfV_ok (run_sound hm noPr_ok n) noPr_ok hr
end Go.Ev
namespace Go.Ev
open Go.RowKit
variable {P : Program} {pr : Prims} {e : Env} {h : H} {s : Nat} {w : World}
/-- What turns nothing that was there, and makes nothing that is known. -/
theorem Post.below {w' : World} (hs : Sim e h w) (hf : Free e s) (hb : Below w.heap.size w w') : Post e s h w e s h w' where
  le := Env.le.refl e
  low := fun _ _ => rfl
  up := Nat.le_refl _
  free := hf
  sim := ⟨fun b hl => by
    obtain ⟨x, o, g1, g2, g3⟩ := hs.blk b hl
    refine ⟨x, o, g1, ?_, g3⟩
    rw [hb.block _ (Array.getElem?_eq_some_iff.1 g2).1]; exact g2, hs.inj, fun n hn => Nat.lt_of_lt_of_le (hs.big n hn) hb.size, fun n hn => by rw [hb.block _ (hs.big n hn)]; exact hs.old n hn, hs.above⟩
  dom := fun b x hl hx => .inl ⟨b, x, hl, hx, rfl⟩
  keep := fun n hn _ => hb.block n hn
  size := hb.size
  os := hb.os
  tape := hb.tape
  output := hb.output
def isFn (P : Program) (F : Nat) : Bool := match fnOf P F with | .fn _ _ _ => true | _ => false
/-- A function without arguments that is known to return true. -/
noncomputable def tuPr (F : Nat) (pr : Prims) : Prims := fun f => bif Nat.beq f F then some (fun l h s k => match l with | [] => k (.bool true) h s | _ => .err 210) else pr f
theorem tuPr_ok {F : Nat} (hF : isFn P F = true) (hc : ∀ w, Calls P F #[] w (fun en w' => en = .returned (.bool true) ∧ Below w.heap.size w w')) (hpr : SoundPr P pr) : SoundPr P (tuPr F pr) := fun f g h => by
  unfold tuPr at h
  cases hf : Nat.beq f F with
  | false => rw [hf] at h; exact hpr f g h
  | true =>
    rw [hf] at h
    simp only [cond_true] at h
    injection h with h
    have := Nat.eq_of_beq_eq_true hf
    subst this
    subst h
    intro args h s k hr e w xs hx hs hf'
    unfold isFn at hF
    split at hF
    · rename_i c n rs hfn
      obtain ⟨_, _, _, _, _, g5⟩ := fnOf_ok hfn
      cases hx with
      | nil => exact ⟨g5 _ _, Calls.mono (hc w) (fun en w' hq => ⟨.bool true, hq.1, .bool true, h, s, .refl _, e, .bool _, Post.below hs hf' hq.2⟩)⟩
      | cons _ _ => exact hr.elim
    · cases hF
end Go.Ev
