/- More on assertions on memory; slices that read as a list; new rows. No program in sight. -/
import Derived.Test.YtfjadhkhmhnccaaSep
set_option linter.unusedVariables false
namespace Go.Proofs.Num
open Go.RowKit
theorem Sts.withEmp {W w : World} {l : List HProp} (h : Sts W l w) : Sts W (emp :: l) w := by
  obtain ⟨F, a, b, c⟩ := h
  exact ⟨F, ⟨fun _ => False, F, fun _ h => h, a, fun _ h => h.elim, fun k => by simp⟩, b, c⟩
theorem stab0 : ∀ B ∈ ([] : List HProp), Stable B := by intro B hB; simp at hB
theorem stabC {A : HProp} {l : List HProp} (hA : Stable A) (hl : ∀ D ∈ l, Stable D) : ∀ D ∈ A :: l, Stable D := by
  intro D hD; simp at hD; rcases hD with rfl | h
  · exact hA
  · exact hl D h
theorem stab1 {A : HProp} (hA : Stable A) : ∀ B ∈ [A], Stable B := stabC hA stab0
theorem st2 {A B : HProp} {l : List HProp} (hA : Stable A) (hB : Stable B) (hl : ∀ D ∈ l, Stable D) : ∀ D ∈ A :: B :: l, Stable D := stabC hA (stabC hB hl)
theorem st3 {A B C : HProp} {l : List HProp} (hA : Stable A) (hB : Stable B) (hC : Stable C) (hl : ∀ D ∈ l, Stable D) : ∀ D ∈ A :: B :: C :: l, Stable D := stabC hA (st2 hB hC hl)
theorem Sts.nil_below {W w : World} (h : Below W.heap.size W w) : Sts W [] w := ⟨fun _ => False, fun _ h => h, h, fun _ h => h.elim⟩
theorem Sts.split {W w : World} {A B : HProp} {l : List HProp} (h : Sts W (star A B :: l) w) : Sts W (A :: B :: l) w := by
  obtain ⟨F, ⟨F1, F2, ⟨F3, F4, a, b, d1, e1⟩, c, d2, e2⟩, k, n⟩ := h
  refine ⟨F, ⟨F3, fun k => F4 k ∨ F2 k, a, ⟨F4, F2, b, c, fun k h h' => d2 k ((e1 k).2 (Or.inr h)) h', fun k => Iff.rfl⟩, ?_, ?_⟩, k, n⟩
  · rintro k h3 (h4 | h2)
    · exact d1 k h3 h4
    · exact d2 k ((e1 k).2 (Or.inl h3)) h2
  · intro k; rw [e2 k, e1 k, or_assoc]
theorem box_cell {w : World} {F : Nat → Prop} {b j : Nat} {cs : Array Value} {t : TypeId} {v : Value} (h : blkP b (.cells cs t (0, 0)) w F) (hv : cs[j]? = some v) : w.cell? ⟨b, j, none⟩ = some v := cell_blk h.1 hv
theorem Sts.boxCell {W w : World} {b : Nat} {cs : Array Value} {t : TypeId} {l : List HProp} (h : Sts W (blkP b (.cells cs t (0, 0)) :: l) w) (j : Nat) (v : Value) (hv : cs[j]? = some v) :
    w.cell? ⟨b, j, none⟩ = some v ∧ w.frozen? ⟨b, j, none⟩ = false := by
  obtain ⟨F, hb⟩ := h.head; exact ⟨box_cell hb hv, free_blk hb.1⟩
section
variable {W w : World} {e : TypeId} {g cap n : Nat} {xs : List Value} {l : List HProp}
theorem Sts.rowCell (h : Sts W (rowP e 1 (.slice (some ⟨g, 0, none⟩) n cap) n xs :: l) w) (i : Nat) (hi : i < n) (v : Value) (hv : xs[i]? = some v) : w.cell? ⟨g, i, none⟩ = some v := by
  obtain ⟨F, h, _⟩ := h.head
  rw [h.cellAt i (by omega), hv]
theorem Sts.rowFree (h : Sts W (rowP e 1 (.slice (some ⟨g, 0, none⟩) n cap) n xs :: l) w) (i : Nat) : w.frozen? ⟨g, i, none⟩ = false := by
  obtain ⟨F, h, _⟩ := h.head; exact h.frozenAt i
theorem Sts.rowStore (hl : ∀ A ∈ l, Stable A) (h : Sts W (rowP e 1 (.slice (some ⟨g, 0, none⟩) n cap) n xs :: l) w) (i : Nat) (v : Value) :
    Sts W (rowP e 1 (.slice (some ⟨g, 0, none⟩) n cap) n (xs.set i v) :: l) (w.setCell ⟨g, i, none⟩ v) := by
  obtain ⟨F, ⟨F1, F2, ⟨a, hF1⟩, r, hd, hF⟩, hb, hn⟩ := h
  have hg : ∀ k, F1 k ↔ k = g := fun k => by rw [hF1 k]; simp [Value.ownBlock]; exact eq_comm
  have hk : Keep (fun k => k = g) w (w.setCell ⟨g, i, none⟩ v) := (Keep.refl (fun k => k = g) w).setCell (p := ⟨g, i, none⟩) (fun _ => rfl) v
  refine ⟨F, ⟨F1, F2, ⟨?_, hF1⟩, (stars_stable hl).keep r hk (fun k h2 h1 => hd k ((hg k).2 h1) h2), hd, hF⟩, ?_, hn⟩
  · have := (a.stored i v).1; simpa using this
  · exact hb.setCell (hn g ((hF g).2 (Or.inl ((hg g).2 rfl)))) v
end
theorem own_base {w : World} {b c : Nat} {e : TypeId} {s n : Nat} {v : Value} {xs : List Value} (h : w.ownsRow b e s v n xs) (hc : c ≤ b) : w.ownsRow c e s v n xs := by
  obtain ⟨h1, h2⟩ := h
  refine ⟨h1, ?_⟩
  rcases h2 with h2 | ⟨g, cap, cur, hv, hg, r⟩
  · exact Or.inl h2
  · exact Or.inr ⟨g, cap, cur, hv, by omega, r⟩
theorem own_some {w : World} {b : Nat} {e : TypeId} {s n : Nat} {v : Value} {xs : List Value} (h : w.ownsRow b e s v n xs) (hv : v ≠ .slice none 0 0) :
    ∃ g cap, v = .slice (some ⟨g, 0, none⟩) n cap ∧ b ≤ g := by
  rcases h.2 with ⟨h2, _⟩ | ⟨g, cap, cur, hv', hg, r⟩
  · exact absurd h2 hv
  · exact ⟨g, cap, hv', hg⟩
/-- The slice v reads as xs. -/
def Rd (w : World) (v : Value) (xs : List Value) : Prop := ∃ a cap, v = .slice a xs.length cap ∧ (xs.length ≤ cap ∧ cap ≤ maxLen) ∧ ∀ j, (h : j < xs.length) → ∃ b off, a = some ⟨b, off, none⟩ ∧ b < w.heap.size ∧ w.cell? ⟨b, off + j, none⟩ = some xs[j]
theorem Rd.below {w w' : World} {v : Value} {xs : List Value} (h : Rd w v xs) (k : Below w.heap.size w w') : Rd w' v xs := by
  obtain ⟨a, cap, rfl, hn, hc⟩ := h
  refine ⟨a, cap, rfl, hn, fun j hj => ?_⟩
  obtain ⟨b, off, rfl, hb, hx⟩ := hc j hj
  exact ⟨b, off, rfl, by have := k.size; omega, by rw [k.cell hb]; exact hx⟩
theorem Rd.take {w : World} {a : Option Addr} {n cap : Nat} {xs : List Value} (h : Rd w (.slice a n cap) xs) (k : Nat) (hk : k ≤ xs.length) (cap' : Nat) (hc' : k ≤ cap' ∧ cap' ≤ maxLen) : Rd w (.slice a k cap') (xs.take k) := by
  obtain ⟨a', cap1, e, hn, hc⟩ := h
  injection e with e1 e2 e3; subst e1
  refine ⟨a, cap', by simp [Nat.min_eq_left hk], by simpa [Nat.min_eq_left hk] using hc', fun j hj => ?_⟩
  simp at hj
  obtain ⟨b, off, rfl, hb, hx⟩ := hc j (by omega)
  exact ⟨b, off, rfl, hb, by simpa using hx⟩
theorem Rd.nil (w : World) (a : Option Addr) (cap : Nat) (h : cap ≤ maxLen) : Rd w (.slice a 0 cap) [] := ⟨a, cap, rfl, ⟨by simp, h⟩, fun j hj => absurd hj (by simp)⟩
/-- What lies behind its head. -/
theorem Rd.drop {w : World} {a : Option Addr} {n cap : Nat} {xs : List Value} (h : Rd w (.slice a n cap) xs) (k : Nat) (hk : k ≤ xs.length) (a' : Option Addr) (cap' : Nat) (hc' : xs.length - k ≤ cap' ∧ cap' ≤ maxLen)
    (ha : ∀ b off, k < xs.length → a = some ⟨b, off, none⟩ → a' = some ⟨b, off + k, none⟩) : Rd w (.slice a' (xs.length - k) cap') (xs.drop k) := by
  obtain ⟨a1, cap1, e, hn, hc⟩ := h
  injection e with e1 e2 e3; subst e1
  refine ⟨a', cap', by simp, by simpa using hc', fun j hj => ?_⟩
  simp at hj
  obtain ⟨b, off, hab, hb, hx⟩ := hc (k + j) (by omega)
  exact ⟨b, off + k, ha b off (by omega) hab, hb, by rw [Nat.add_assoc]; simpa using hx⟩
theorem Rd.of_own {w : World} {b : Nat} {e : TypeId} {v : Value} {n : Nat} {xs : List Value} (h : w.ownsRow b e 1 v n xs) (hn : xs.length = n) : Rd w v xs := by
  rcases h.2 with ⟨h2, h3⟩ | ⟨g, cap, cur, hv', hg, _, hc1, hc2, r⟩
  · subst h2; subst h3
    have := List.eq_nil_of_length_eq_zero hn; subst this; exact Rd.nil _ _ _ (by unfold maxLen; omega)
  · subst hv'
    have hlt := (h.lt g rfl).2
    refine ⟨_, cap, by rw [hn], ⟨by omega, hc2⟩, fun j hj => ⟨g, 0, rfl, hlt, ?_⟩⟩
    rw [Nat.zero_add, h.cellAt j (by omega)]; simp
theorem Rd.eq {w : World} {v : Value} {xs : List Value} (h : Rd w v xs) : ∃ a cap, v = .slice a xs.length cap := by
  obtain ⟨a, cap, h, _⟩ := h; exact ⟨a, cap, h⟩
theorem Rd.cap {w : World} {a : Option Addr} {n cap : Nat} {xs : List Value} (h : Rd w (.slice a n cap) xs) : n = xs.length ∧ n ≤ cap ∧ cap ≤ maxLen := by
  obtain ⟨a', cap', e, hn, hc⟩ := h
  injection e with e1 e2 e3
  omega
/-- A new row: made since w. -/
structure New (w w' : World) (e : TypeId) (v : Value) (ys : List Value) : Prop where
  own : w'.ownsRow w.heap.size e 1 v ys.length ys
  below : Below w.heap.size w w'
theorem New.rd {w w' : World} {e : TypeId} {v : Value} {ys : List Value} (h : New w w' e v ys) : Rd w' v ys := Rd.of_own h.own rfl
theorem New.of {W w w' : World} {e : TypeId} {v : Value} {ys : List Value} (h : Below W.heap.size W w) (k : New w w' e v ys) : New W w' e v ys := ⟨own_base k.own h.size, h.trans (k.below.mono h.size)⟩
theorem New.later {w w1 w2 : World} {e : TypeId} {v : Value} {ys : List Value} (h : New w w1 e v ys) (k : Below w1.heap.size w1 w2) : New w w2 e v ys :=
  ⟨(Keep.of_below (S := fun _ => False) k).ownsRow h.own (fun _ _ h => h), h.below.trans (k.mono h.below.size)⟩
theorem Sts.new {W w w' : World} {l : List HProp} {e : TypeId} {v : Value} {ys : List Value} (hl : ∀ A ∈ l, Stable A) (h : Sts W l w) (k : New w w' e v ys) : Sts W (rowP e 1 v ys.length ys :: l) w' := by
  obtain ⟨F, b, c, d⟩ := h
  have hs := stars_stable hl
  have hv : ∀ k, v.ownBlock = some k → w.heap.size ≤ k := fun k' hk => (k.own.lt k' hk).1
  refine ⟨fun k => v.ownBlock = some k ∨ F k, ⟨fun k => v.ownBlock = some k, F, ⟨own_base k.own (Nat.zero_le _), fun k => Iff.rfl⟩, hs.keep b (Keep.of_below (S := fun _ => False) k.below) (fun _ _ h => h), ?_, fun k => Iff.rfl⟩, c.trans (k.below.mono c.size), ?_⟩
  · intro k' h1 h2; have := hs.dom b k' h2; have := hv k' h1; omega
  · rintro k' (h | h)
    · have := c.size; have := hv k' h; omega
    · exact d k' h
theorem Sts.rd {W w : World} {l : List HProp} {e : TypeId} {v : Value} {ys : List Value} (h : Sts W (rowP e 1 v ys.length ys :: l) w) : Rd w v ys := by
  obtain ⟨F, h, _⟩ := h.head; exact Rd.of_own h rfl
def u8s (l : List Nat) : List Value := l.map fun x => .int .u8 (x : Nat)
def u32s (l : List Nat) : List Value := l.map fun x => .int .u32 (x : Nat)
theorem u8s_len (l : List Nat) : (u8s l).length = l.length := by simp [u8s]
theorem u32s_len (l : List Nat) : (u32s l).length = l.length := by simp [u32s]
/-- Reads as bytes; as words. -/
def RdB (w : World) (v : Value) (l : List Nat) : Prop := Rd w v (u8s l) ∧ ∀ x ∈ l, x < 256
def RdW (w : World) (v : Value) (l : List Nat) : Prop := Rd w v (u32s l) ∧ ∀ x ∈ l, x < 4294967296
theorem RdB.open {w : World} {v : Value} {l : List Nat} (h : RdB w v l) : ∃ a cap, v = .slice a l.length cap ∧ ∀ j, (h : j < l.length) → ∃ b off, a = some ⟨b, off, none⟩ ∧ b < w.heap.size ∧ w.cell? ⟨b, off + j, none⟩ = some (.int .u8 (l[j] : Nat)) := by
  obtain ⟨⟨a, cap, h1, _, h2⟩, _⟩ := h
  refine ⟨a, cap, by rw [h1, u8s_len], fun j hj => ?_⟩
  obtain ⟨b, off, h3, h4, h5⟩ := h2 j (by rw [u8s_len]; exact hj)
  exact ⟨b, off, h3, h4, by simpa [u8s] using h5⟩
theorem RdW.open {w : World} {v : Value} {l : List Nat} (h : RdW w v l) : ∃ a cap, v = .slice a l.length cap ∧ ∀ j, (h : j < l.length) → ∃ b off, a = some ⟨b, off, none⟩ ∧ b < w.heap.size ∧ w.cell? ⟨b, off + j, none⟩ = some (.int .u32 (l[j] : Nat)) := by
  obtain ⟨⟨a, cap, h1, _, h2⟩, _⟩ := h
  refine ⟨a, cap, by rw [h1, u32s_len], fun j hj => ?_⟩
  obtain ⟨b, off, h3, h4, h5⟩ := h2 j (by rw [u32s_len]; exact hj)
  exact ⟨b, off, h3, h4, by simpa [u32s] using h5⟩
theorem RdB.below {w w' : World} {v : Value} {l : List Nat} (h : RdB w v l) (k : Below w.heap.size w w') : RdB w' v l := ⟨h.1.below k, h.2⟩
theorem RdW.below {w w' : World} {v : Value} {l : List Nat} (h : RdW w v l) (k : Below w.heap.size w w') : RdW w' v l := ⟨h.1.below k, h.2⟩
end Go.Proofs.Num
