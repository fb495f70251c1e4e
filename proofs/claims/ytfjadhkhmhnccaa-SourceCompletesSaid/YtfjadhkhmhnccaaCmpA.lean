/- Losses as an argument; the law's function that reads them; where the law begins. -/
import Derived.Test.YtfjadhkhmhnccaaCmpM
import Derived.Test.YtfjadhkhmhnccaaSrcOrdA
import Derived.Test.YtfjadhkhmhnccaaOpenG
set_option linter.unusedVariables false
set_option linter.unusedSimpArgs false
namespace Go.Proofs.Ytfjadhkhmhnccaa
open Go.RowKit Go.Proofs.Num Go.ChangeShapes
def BoolE (w : World) (cs : List Value) (b : Bool) : Prop := cs = [.bool b]
abbrev BoolsAt (w : World) (v : Value) (l : List Bool) : Prop := SliceOf w 1 BoolE v l
theorem BoolsAt.below {w w' : World} {v : Value} {l : List Bool} (h : BoolsAt w v l) (k : Below w.heap.size w w') : BoolsAt w' v l := SliceOf.below h (fun cs s hs => hs) k
section
variable {H : Type} {enc : TypeId × Value → H} {w : World} {base : Nat} {spare : Nat → Bool} {held : Bool}
theorem open_boolC {fu : Nat} {cs : List Value} {x : DataW H × List MemPlace} (h : DataW.trod enc Try.prog w base spare held fu 4 cs = some x) (hs : cs.length = 1) : ∃ b, BoolE w cs b := by
  match cs, hs with
  | [u], _ =>
    obtain ⟨b, e, _⟩ := DataW.trod_bool Try.underlying4 h
    exact ⟨b, e⟩
end
theorem BoolsAt.open {w : World} {v : Value} {l : List Bool} (h : BoolsAt w v l) : ∃ a cap, v = .slice a l.length cap ∧ ∀ k, (hk : k < l.length) → ∃ b off, a = some ⟨b, off, none⟩ ∧ w.cell? ⟨b, off + k, none⟩ = some (.bool l[k]) := by
  obtain ⟨a, cap, h1, h2, h3⟩ := h
  refine ⟨a, cap, h1, fun k hk => ?_⟩
  obtain ⟨b, off, cs, g1, g2, g3, g4, g5⟩ := h3 k hk
  refine ⟨b, off, g1, ?_⟩
  have g5 : cs = [.bool l[k]] := g5
  subst g5
  have := g4 0 (by simp)
  rw [show off + k * 1 + 0 = off + k by omega] at this
  exact this
theorem inv_start (name : ByteArray) (data : List Nat) (loss : List Bool) (c : Int) (hb : Fil.newB 1 7 2 name data.length c 4 255 = true) (hd : ∀ x ∈ data, x < 256) :
    Fil.Inv data loss 0 (newSrc 1 7 2 name data c 4 255) ⟨false, false, false, List.replicate data.length false, List.replicate data.length 0⟩ 0 := by
  obtain ⟨hG, -⟩ := new_good 1 7 2 name data c 4 255 hb hd
  refine ⟨⟨hG, rfl, rfl, rfl, rfl, rfl, rfl, rfl, rfl, Int.le_refl _, Int.le_refl _, by simp, by simp, fun i hi => ?_⟩, .zero rfl rfl rfl rfl rfl rfl rfl rfl⟩
  have hi : (List.replicate data.length false)[i]? = some true := hi
  rw [List.getElem?_replicate] at hi
  split at hi <;> cases hi
set_option maxRecDepth 100000 in
theorem cLost (w : World) (v : Value) (l : List Bool) (h : BoolsAt w v l) (hl : l.length ≤ 100) (k : Nat) (hk : k < 1000000000) : Calls Try.prog 23 #[v, .int .i64 (k : Nat)] w fun e w' => e = .returned (.bool (Fil.lost l k)) ∧ Below w.heap.size w w' := by
  obtain ⟨a, cap, rfl, hx⟩ := h.open
  obtain ⟨n, hn⟩ : ∃ n, n = l.length := ⟨_, rfl⟩
  by_cases c : k < n
  · obtain ⟨b, off, rfl, hc⟩ := hx k (by omega)
    have e1 : Fil.lost l k = l[k]'(by omega) := by unfold Fil.lost; rw [List.getD_eq_getElem?_getD, List.getElem?_eq_getElem (by omega)]; rfl
    rw [e1]
    obtain ⟨x, hx'⟩ : ∃ x, x = l[k]'(by omega) := ⟨_, rfl⟩
    rw [← hx'] at hc ⊢
    have d1 : decide ((k : Int) < (n : Int)) = true := decide_eq_true (by omega)
    rw [← hn]
    clear hx e1 hx' h hl hn
    go_enter Try.func23, Try.ntmps23
    go_wp2_with fail
    all_goals (go_ret; exact ⟨rfl, Below.refl _ _⟩)
  · have e1 : Fil.lost l k = false := by unfold Fil.lost; rw [List.getD_eq_getElem?_getD, List.getElem?_eq_none (by omega)]; rfl
    rw [e1, ← hn]
    have d1 : decide ((k : Int) < (n : Int)) = false := decide_eq_false (by omega)
    clear hx h hl hn e1
    go_enter Try.func23, Try.ntmps23
    go_wp2_with fail
    all_goals (go_ret; exact ⟨rfl, Below.refl _ _⟩)
end Go.Proofs.Ytfjadhkhmhnccaa
