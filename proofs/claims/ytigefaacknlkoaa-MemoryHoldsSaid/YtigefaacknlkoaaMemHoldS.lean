/- The state of the law MemoryHolds: a memory, the list of what it should hold, and the marks of the inverted words. -/
import Derived.Test.YtigefaacknlkoaaMemStep
import Derived.Test.YtigefaacknlkoaaMemLives
import Derived.Test.YtigefaacknlkoaaMemHold
set_option linter.unusedVariables false
namespace Go.Proofs.Num
open Go.RowKit
section
variable {W w : World} {e : TypeId} {g cap n : Nat} {xs : List Value} {l : List HProp}
theorem Sts.rowCell (h : Sts W (rowP e 1 (.slice (some ⟨g, 0, none⟩) n cap) n xs :: l) w) (i : Nat) (hi : i < n) (v : Value) (hv : xs[i]? = some v) : w.cell? ⟨g, i, none⟩ = some v := by
  obtain ⟨F, h, _⟩ := h.head
  rw [h.cellAt i (by omega), hv]
theorem Sts.rowFree (h : Sts W (rowP e 1 (.slice (some ⟨g, 0, none⟩) n cap) n xs :: l) w) (i : Nat) : w.frozen? ⟨g, i, none⟩ = false := by
  obtain ⟨F, h, _⟩ := h.head; exact h.frozenAt i
theorem Sts.rowStore (hl : ∀ A ∈ l, Stable A) (h : Sts W (rowP e 1 (.slice (some ⟨g, 0, none⟩) n cap) n xs :: l) w) (i : Nat) (v : Value) :
    Sts W (rowP e 1 (.slice (some ⟨g, 0, none⟩) n cap) n (xs.set i v) :: l) (w.setCell ⟨g, i, none⟩ v) := by
  obtain ⟨F, ⟨F1, F2, ⟨a, hF1⟩, r, hd, hF⟩, hb, hn⟩ := h
  have hg : ∀ k, F1 k ↔ k = g := fun k => by rw [hF1 k]; simp [Value.ownBlock]; exact eq_comm
  have hk : Keep (fun k => k = g) w (w.setCell ⟨g, i, none⟩ v) := (Keep.refl (fun k => k = g) w).setCell (p := ⟨g, i, none⟩) (fun _ => rfl) v
  refine ⟨F, ⟨F1, F2, ⟨?_, hF1⟩, (stars_stable hl).keep r hk (fun k h2 h1 => hd k ((hg k).2 h1) h2), hd, hF⟩, ?_, hn⟩
  · have := (a.stored i v).1; simpa using this
  · exact hb.setCell (hn g ((hF g).2 (Or.inl ((hg g).2 rfl)))) v
theorem Sts.made {w1 : World} (hl : ∀ A ∈ l, Stable A) (h : Sts W l w) (a : w1.ownsRow 0 e 1 (.slice (some ⟨w.heap.size, 0, none⟩) n cap) n xs) (hg : w.grownBy w1 none) :
    Sts W (rowP e 1 (.slice (some ⟨w.heap.size, 0, none⟩) n cap) n xs :: l) w1 := by
  obtain ⟨F, b, c, d⟩ := h
  have hb : Below w.heap.size w w1 := (Below.refl _ _).grown hg (Nat.le_refl _) (by intro k hk; simp at hk)
  have hs := stars_stable hl
  refine ⟨fun k => k = w.heap.size ∨ F k, ⟨fun k => k = w.heap.size, F, ⟨a, fun k => ?_⟩, hs.keep b (Keep.of_below (S := fun _ => False) hb) (fun _ _ h => h), ?_, fun k => Iff.rfl⟩, c.trans (hb.mono c.size), ?_⟩
  · simp [Value.ownBlock]; exact eq_comm
  · intro k h1 h2; have := hs.dom b k h2; omega
  · rintro k (h | h)
    · have := c.size; omega
    · exact d k h
end
end Go.Proofs.Num
namespace Go.Proofs.Ytigefaacknlkoaa
open Go.RowKit Go.Proofs.Num
def u32s (ws : List Nat) : List Value := ws.map fun x => .int .u32 (x : Nat)
def bools (l : List Bool) : List Value := l.map fun b => .bool b
theorem u32s_get (ws : List Nat) (i : Nat) (h : i < ws.length) : (u32s ws)[i]? = some (.int .u32 (ws.getD i 0 : Nat)) := by simp [u32s, h, List.getD]
theorem u32s_set (ws : List Nat) (i x : Nat) : (u32s ws).set i (.int .u32 (x : Nat)) = u32s (ws.set i x) := by simp [u32s, List.map_set]
theorem bools_get (l : List Bool) (i : Nat) (h : i < l.length) : (bools l)[i]? = some (.bool (l.getD i false)) := by simp [bools, h, List.getD]
theorem bools_set (l : List Bool) (i : Nat) (b : Bool) : (bools l).set i (.bool b) = bools (l.set i b) := by simp [bools, List.map_set]
theorem u32_rep (n : Nat) : (madeCells (Value.int IntKind.u32 0).cells (n * 1)).toList = u32s (List.replicate n 0) := by
  show (madeCells #[Value.int IntKind.u32 0] (n * 1)).toList = _
  rw [toList_madeCells_one]; simp [u32s]
theorem bool_rep (n : Nat) : (madeCells (Value.bool false).cells (n * 1)).toList = bools (List.replicate n false) := by
  show (madeCells #[Value.bool false] (n * 1)).toList = _
  rw [toList_madeCells_one]; simp [bools]
/-- The parts that the state holds. -/
def parts (p g h n c : Nat) (ws want : List Nat) (up : List Bool) : List HProp :=
  [memP p ws c, rowP 22 1 (.slice (some ⟨g, 0, none⟩) n n) n (u32s want), rowP 4 1 (.slice (some ⟨h, 0, none⟩) n n) n (bools up)]
/-- The state. -/
structure HoldA (w : World) (p g h n c : Nat) (ws want : List Nat) (up : List Bool) (w' : World) : Prop where
  held : Ecc.Held ws want up n
  sts : Sts w (parts p g h n c ws want up) w'
section
variable {w w' : World} {p g h n c : Nat} {ws want : List Nat} {up : List Bool}
theorem stabW (g n : Nat) (want : List Nat) : Stable (rowP 22 1 (.slice (some ⟨g, 0, none⟩) n n) n (u32s want)) := rowP_stable _ _ _ _ _
theorem stabU (h n : Nat) (up : List Bool) : Stable (rowP 4 1 (.slice (some ⟨h, 0, none⟩) n n) n (bools up)) := rowP_stable _ _ _ _ _
theorem HoldA.wantC (H : HoldA w p g h n c ws want up w') (i : Nat) (hi : i < n) : w'.cell? ⟨g, i, none⟩ = some (.int .u32 (want.getD i 0 : Nat)) ∧ w'.frozen? ⟨g, i, none⟩ = false :=
  ⟨H.sts.swap.rowCell i hi _ (u32s_get _ _ (by rw [H.held.l2]; exact hi)), H.sts.swap.rowFree i⟩
theorem HoldA.upC (H : HoldA w p g h n c ws want up w') (i : Nat) (hi : i < n) : w'.cell? ⟨h, i, none⟩ = some (.bool (up.getD i false)) ∧ w'.frozen? ⟨h, i, none⟩ = false :=
  ⟨H.sts.third.rowCell i hi _ (bools_get _ _ (by rw [H.held.l3]; exact hi)), H.sts.third.rowFree i⟩
theorem HoldA.below (H : HoldA w p g h n c ws want up w') : Below w.heap.size w w' := H.sts.below
theorem HoldA.read (H : HoldA w p g h n c ws want up w') (i : Nat) (hi : i < n) (hc : c < 100000000000) :
    Calls Try.prog 32 #[.pointer (some ⟨p, 0, none⟩), .int .i64 i] w' fun e w'' => e = .returned (.tuple #[.int .u32 (want.getD i 0 : Nat), .int .i64 0]) ∧
      Sts w (parts p g h n (c + if up.getD i false then 1 else 0) (ws.set i (Ecc.enc (want.getD i 0))) want up) w'' := by
  have k := Sts.callV (st2 (stabW g n want) (stabU h n up) stab0) H.sts (s32 p c ws i hc)
  rw [H.held.read c i hi] at k
  exact k
theorem HoldA.write (H : HoldA w p g h n c ws want up w') (i v : Nat) (hi : i < n) (hv : v < 4294967296) :
    Calls Try.prog 33 #[.pointer (some ⟨p, 0, none⟩), .int .i64 i, .int .u32 v] w' fun e w'' => e = .returned (.int .i64 0) ∧
      Sts w (parts p g h n c (ws.set i (Ecc.enc v)) want up) w'' := by
  have k := Sts.callV (st2 (stabW g n want) (stabU h n up) stab0) H.sts (s33 p c ws i v hv)
  rw [(H.held.write i v hi hv).1] at k
  exact k
theorem HoldA.flip (H : HoldA w p g h n c ws want up w') (i b : Nat) (hi : i < n) (hb : b < 39) (hu : up.getD i false = false) :
    Calls Try.prog 34 #[.pointer (some ⟨p, 0, none⟩), .int .i64 i, .int .i64 b] w' fun e w'' => e = .returned (.int .i64 0) ∧
      Sts w (parts p g h n c (ws.set i (Ecc.flp (ws.getD i 0) b)) want up) w'' := by
  have k := Sts.callV (st2 (stabW g n want) (stabU h n up) stab0) H.sts (s34 p c ws i b)
  rw [(H.held.flip i b hi hb hu).1] at k
  exact k
theorem HoldA.scrub (H : HoldA w p g h n c ws want up w') (i : Nat) (hi : i < n) (hc : c < 100000000000) :
    Calls Try.prog 35 #[.pointer (some ⟨p, 0, none⟩), .int .i64 i, .int .i64 n] w' fun e w'' => e = .returned (.tuple #[.int .i64 (up.count true : Nat), .int .i64 0]) ∧
      ∃ ws', Ecc.Held ws' want (List.replicate n false) n ∧ Sts w (parts p g h n (c + up.count true) ws' want up) w'' := by
  obtain ⟨ws', c', h1, rfl, h3⟩ := H.held.scrub c i hi
  have k := Sts.callV (st2 (stabW g n want) (stabU h n up) stab0) H.sts (s35 p c ws i n hc)
  rw [h1] at k
  exact k.mono fun e w'' ⟨he, hs⟩ => ⟨he, ws', h3, hs⟩
theorem sts_up (H : Sts w (parts p g h n c ws want up) w') (i : Nat) (b : Bool) : Sts w (parts p g h n c ws want (up.set i b)) (w'.setCell ⟨h, i, none⟩ (.bool b)) := by
  have k := Sts.rowStore (st2 (memP_stable _ _ _) (stabW g n want) stab0) (Sts.third H) i (.bool b)
  rw [bools_set] at k
  exact k.third'
theorem sts_want (H : Sts w (parts p g h n c ws want up) w') (i v : Nat) : Sts w (parts p g h n c ws (want.set i v) up) (w'.setCell ⟨g, i, none⟩ (.int .u32 (v : Nat))) := by
  have k := Sts.rowStore (st2 (memP_stable _ _ _) (stabU h n up) stab0) (Sts.swap H) i (.int .u32 (v : Nat))
  rw [u32s_set] at k
  exact k.swap
theorem sts_want_cell (H : Sts w (parts p g h n c ws want up) w') (i : Nat) (hl : want.length = n) (hi : i < n) : w'.cell? ⟨g, i, none⟩ = some (.int .u32 (want.getD i 0 : Nat)) ∧ w'.frozen? ⟨g, i, none⟩ = false :=
  ⟨(Sts.swap H).rowCell i hi _ (u32s_get _ _ (by rw [hl]; exact hi)), (Sts.swap H).rowFree i⟩
theorem sts_up_cell (H : Sts w (parts p g h n c ws want up) w') (i : Nat) (hl : up.length = n) (hi : i < n) : w'.cell? ⟨h, i, none⟩ = some (.bool (up.getD i false)) ∧ w'.frozen? ⟨h, i, none⟩ = false :=
  ⟨(Sts.third H).rowCell i hi _ (bools_get _ _ (by rw [hl]; exact hi)), (Sts.third H).rowFree i⟩
end
end Go.Proofs.Ytigefaacknlkoaa
