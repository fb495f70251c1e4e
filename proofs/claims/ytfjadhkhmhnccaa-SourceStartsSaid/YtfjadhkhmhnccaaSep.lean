/- Assertions on memory with the blocks that they speak of; what a call does to one assertion leaves the others. No program in sight. -/
import Derived.Test.YtfjadhkhmhnccaaKeep
namespace Go.Proofs.Num
open Go.RowKit
abbrev HProp := World → (Nat → Prop) → Prop
/-- It speaks of blocks that are there, and holds as long as they are kept. -/
structure Stable (A : HProp) : Prop where
  dom : ∀ {w F}, A w F → ∀ k, F k → k < w.heap.size
  keep : ∀ {w w' F S}, A w F → Keep S w w' → (∀ k, F k → ¬ S k) → A w' F
def emp : HProp := fun _ F => ∀ k, ¬ F k
def star (A B : HProp) : HProp := fun w F => ∃ F1 F2, A w F1 ∧ B w F2 ∧ (∀ k, F1 k → ¬ F2 k) ∧ (∀ k, F k ↔ F1 k ∨ F2 k)
def stars : List HProp → HProp
  | [] => emp
  | A :: l => star A (stars l)
theorem emp_stable : Stable emp := ⟨fun h k hk => absurd hk (h k), fun h _ _ => h⟩
theorem star_stable {A B : HProp} (hA : Stable A) (hB : Stable B) : Stable (star A B) where
  dom := by
    rintro w F ⟨F1, F2, a, b, _, hF⟩ k hk
    rcases (hF k).1 hk with h | h
    · exact hA.dom a k h
    · exact hB.dom b k h
  keep := by
    rintro w w' F S ⟨F1, F2, a, b, hd, hF⟩ hk hS
    exact ⟨F1, F2, hA.keep a hk (fun k h => hS k ((hF k).2 (Or.inl h))), hB.keep b hk (fun k h => hS k ((hF k).2 (Or.inr h))), hd, hF⟩
theorem stars_stable {l : List HProp} (h : ∀ A ∈ l, Stable A) : Stable (stars l) := by
  induction l with
  | nil => exact emp_stable
  | cons A l ih => exact star_stable (h A (by simp)) (ih fun B hB => h B (by simp [hB]))
/-- A block known whole. -/
def blkP (b : Nat) (o : Obj) : HProp := fun w F => w.heap[b]? = some o ∧ ∀ k, F k ↔ k = b
theorem blkP_stable (b : Nat) (o : Obj) : Stable (blkP b o) where
  dom := by rintro w F ⟨h, hF⟩ k hk; rw [(hF k).1 hk]; exact lt_of_heap h
  keep := by rintro w w' F S ⟨h, hF⟩ hk hS; exact ⟨hk.heap h (hS b ((hF b).2 rfl)), hF⟩
/-- A row of cells that a slice owns. -/
def rowP (e : TypeId) (size : Nat) (v : Value) (n : Nat) (xs : List Value) : HProp := fun w F => w.ownsRow 0 e size v n xs ∧ ∀ k, F k ↔ v.ownBlock = some k
theorem rowP_stable (e : TypeId) (size : Nat) (v : Value) (n : Nat) (xs : List Value) : Stable (rowP e size v n xs) where
  dom := by rintro w F ⟨h, hF⟩ k hk; exact (h.lt k ((hF k).1 hk)).2
  keep := by rintro w w' F S ⟨h, hF⟩ hk hS; exact ⟨hk.ownsRow h (fun k hv => hS k ((hF k).2 hv)), hF⟩
/-- The world w has come of W by new memory alone, and of the new blocks A holds. -/
def St (W : World) (A : HProp) (w : World) : Prop := ∃ F, A w F ∧ Below W.heap.size W w ∧ ∀ k, F k → W.heap.size ≤ k
/-- What a call does to what it is handed: it leaves all other blocks; what it hands back lies there or in new blocks. -/
def HSpec {α : Type} (P : Program) (f : FuncId) (args : Array Value) (A : HProp) (v : α → Value) (A' : α → HProp) : Prop :=
  ∀ w F, A w F → Calls P f args w fun e w' => ∃ a F', e = .returned (v a) ∧ A' a w' F' ∧ Keep F w w' ∧ ∀ k, F' k → F k ∨ w.heap.size ≤ k
theorem St.call {α : Type} {P : Program} {f : FuncId} {args : Array Value} {A R : HProp} {v : α → Value} {A' : α → HProp} {W w : World}
    (hR : Stable R) (h : St W (star A R) w) (c : HSpec P f args A v A') :
    Calls P f args w fun e w' => ∃ a, e = .returned (v a) ∧ St W (star (A' a) R) w' := by
  obtain ⟨F, ⟨F1, F2, ha, hr, hd, hF⟩, hb, hn⟩ := h
  refine (c w F1 ha).mono ?_
  rintro e w' ⟨a, F', he, ha', hk, hnew⟩
  refine ⟨a, he, fun k => F' k ∨ F2 k, ⟨F', F2, ha', hR.keep hr hk (fun k h2 h1 => hd k h1 h2), ?_, fun k => Iff.rfl⟩, ?_, ?_⟩
  · intro k h1 h2
    rcases hnew k h1 with h | h
    · exact hd k h h2
    · have := hR.dom hr k h2; omega
  · exact Keep.below hb hk hb.size (fun k h1 => hn k ((hF k).2 (Or.inl h1)))
  · rintro k (h | h)
    · rcases hnew k h with h1 | h1
      · exact hn k ((hF k).2 (Or.inl h1))
      · have := hb.size; omega
    · exact hn k ((hF k).2 (Or.inr h))
/-- Fixed value. -/
def HSpecV (P : Program) (f : FuncId) (args : Array Value) (A : HProp) (v : Value) (A' : HProp) : Prop := HSpec P f args A (fun _ : Unit => v) (fun _ => A')
theorem star_comm {A B : HProp} {w : World} {F : Nat → Prop} (h : star A B w F) : star B A w F := by
  obtain ⟨F1, F2, a, b, hd, hF⟩ := h
  exact ⟨F2, F1, b, a, fun k h2 h1 => hd k h1 h2, fun k => by rw [hF k, or_comm]⟩
theorem star_left {A B C : HProp} {w : World} {F : Nat → Prop} (h : star A (star B C) w F) : star B (star A C) w F := by
  obtain ⟨F1, F2, a, ⟨F3, F4, b, c, hd2, hF2⟩, hd, hF⟩ := h
  refine ⟨F3, fun k => F1 k ∨ F4 k, b, ⟨F1, F4, a, c, fun k h1 h4 => hd k h1 ((hF2 k).2 (Or.inr h4)), fun k => Iff.rfl⟩, ?_, ?_⟩
  · rintro k h3 (h1 | h4)
    · exact hd k h1 ((hF2 k).2 (Or.inl h3))
    · exact hd2 k h3 h4
  · intro k; rw [hF k, hF2 k]; exact ⟨fun h => by rcases h with h | h | h <;> simp [h], fun h => by rcases h with h | h | h <;> simp [h]⟩
theorem star_mono {A A' B B' : HProp} {w : World} {F : Nat → Prop} (hA : ∀ F, A w F → A' w F) (hB : ∀ F, B w F → B' w F) (h : star A B w F) : star A' B' w F := by
  obtain ⟨F1, F2, a, b, r⟩ := h; exact ⟨F1, F2, hA _ a, hB _ b, r⟩
theorem stars_perm {l m : List HProp} (h : l.Perm m) : ∀ {w : World} {F : Nat → Prop}, stars l w F → stars m w F := by
  induction h with
  | nil => exact fun h => h
  | cons A _ ih => exact fun h => star_mono (fun _ h => h) (fun _ h => ih h) h
  | swap A B l => exact fun h => star_left h
  | trans _ _ ih1 ih2 => exact fun h => ih2 (ih1 h)
theorem stars_app {l m : List HProp} : ∀ {w : World} {F : Nat → Prop}, stars (l ++ m) w F ↔ star (stars l) (stars m) w F := by
  induction l with
  | nil =>
    intro w F
    constructor
    · intro h; exact ⟨fun _ => False, F, fun _ h => h, h, fun _ h => h.elim, fun k => by simp⟩
    · rintro ⟨F1, F2, h1, h2, _, hF⟩
      have : F = F2 := by funext k; apply propext; rw [hF k]; exact ⟨fun h => h.elim (fun h => absurd h (h1 k)) id, Or.inr⟩
      rw [this]; exact h2
  | cons A l ih =>
    intro w F
    constructor
    · intro h
      have h := star_mono (A := A) (A' := A) (fun _ h => h) (fun _ h => ih.1 h) h
      have h := star_mono (fun _ h => h) (fun _ h => star_comm h) h
      have h := star_left h
      exact star_comm h
    · intro h
      have h := star_comm h
      have h := star_left h
      have h := star_mono (A := A) (A' := A) (fun _ h => h) (fun _ h => star_comm h) h
      exact star_mono (fun _ h => h) (fun _ h => ih.2 h) h
/-- A list of assertions. -/
def Sts (W : World) (l : List HProp) (w : World) : Prop := St W (stars l) w
theorem Sts.perm {W w : World} {l m : List HProp} (h : Sts W l w) (p : l.Perm m) : Sts W m w := by
  obtain ⟨F, a, b, c⟩ := h; exact ⟨F, stars_perm p a, b, c⟩
theorem Sts.below {W w : World} {l : List HProp} (h : Sts W l w) : Below W.heap.size W w := by obtain ⟨F, a, b, c⟩ := h; exact b
theorem Sts.nil (W : World) : Sts W [] W := ⟨fun _ => False, fun _ h => h, Below.refl _ _, fun _ h => h.elim⟩
theorem Sts.drew {W w : World} {l : List HProp} (hl : ∀ A ∈ l, Stable A) (h : Sts W l w) : Sts W l w.drew := by
  obtain ⟨F, a, b, c⟩ := h; exact ⟨F, (stars_stable hl).keep a ((Keep.refl (fun _ => False) w).drew) (fun _ _ h => h), b.drew, c⟩
/-- The first of the list. -/
theorem Sts.head {W w : World} {A : HProp} {l : List HProp} (h : Sts W (A :: l) w) : ∃ F, A w F := by
  obtain ⟨F, ⟨F1, F2, a, _⟩, _⟩ := h; exact ⟨F1, a⟩
theorem Sts.tail {W w : World} {A : HProp} {l : List HProp} (h : Sts W (A :: l) w) : Sts W l w := by
  obtain ⟨F, ⟨F1, F2, a, b, hd, hF⟩, hb, hn⟩ := h; exact ⟨F2, b, hb, fun k hk => hn k ((hF k).2 (Or.inr hk))⟩
theorem Sts.mem {W w : World} {A : HProp} {l : List HProp} (h : Sts W l w) (hA : A ∈ l) : ∃ F, A w F := by
  induction l with
  | nil => simp at hA
  | cons B l ih =>
    rcases List.mem_cons.1 hA with rfl | hA
    · exact h.head
    · exact ih h.tail hA
theorem Sts.swap {W w : World} {A B : HProp} {l : List HProp} (h : Sts W (A :: B :: l) w) : Sts W (B :: A :: l) w := h.perm (List.Perm.swap B A l)
/-- The third comes to the front. -/
theorem Sts.third {W w : World} {A B C : HProp} {l : List HProp} (h : Sts W (A :: B :: C :: l) w) : Sts W (C :: A :: B :: l) w :=
  h.perm (((List.Perm.swap C B l).cons A).trans (List.Perm.swap C A (B :: l)))
/-- The first goes behind the next two. -/
theorem Sts.third' {W w : World} {A B C : HProp} {l : List HProp} (h : Sts W (A :: B :: C :: l) w) : Sts W (B :: C :: A :: l) w :=
  h.perm ((List.Perm.swap B A (C :: l)).trans ((List.Perm.swap C A l).cons B))
theorem Sts.weaken {W w : World} {A B : HProp} {l : List HProp} (h : Sts W (A :: l) w) (hAB : ∀ F, A w F → B w F) : Sts W (B :: l) w := by
  obtain ⟨F, a, b, c⟩ := h; exact ⟨F, star_mono hAB (fun _ h => h) a, b, c⟩
/-- Two of a list as one. -/
theorem Sts.join {W w : World} {A B C : HProp} {l : List HProp} (h : Sts W (A :: B :: l) w) (hj : ∀ F, star A B w F → C w F) : Sts W (C :: l) w := by
  obtain ⟨F, a, b, c⟩ := h
  have a1 : star A (star B (stars l)) w F := a
  have a2 : star (star A B) (stars l) w F := by
    have h1 := stars_app (l := [A, B]) (m := l) (w := w) (F := F) |>.1 a1
    refine star_mono (fun F h => ?_) (fun _ h => h) h1
    obtain ⟨F1, F2, x, ⟨F3, F4, y, z, d1, d2⟩, hd, hF⟩ := h
    refine ⟨F1, F3, x, y, fun k h1 h3 => hd k h1 ((d2 k).2 (Or.inl h3)), fun k => ?_⟩
    rw [hF k, d2 k]
    exact ⟨fun h => by rcases h with h | h | h; exact Or.inl h; exact Or.inr h; exact absurd h (z k), fun h => by rcases h with h | h; exact Or.inl h; exact Or.inr (Or.inl h)⟩
  exact ⟨F, star_mono hj (fun _ h => h) a2, b, c⟩
/-- A new block. -/
theorem Sts.alloc {W w : World} {l : List HProp} (hl : ∀ A ∈ l, Stable A) (h : Sts W l w) (o : Obj) : Sts W (blkP w.heap.size o :: l) (w.alloc o) := by
  obtain ⟨F, a, b, c⟩ := h
  have hs := stars_stable hl
  refine ⟨fun k => k = w.heap.size ∨ F k, ⟨fun k => k = w.heap.size, F, ⟨heap_new w o rfl, fun _ => Iff.rfl⟩, hs.keep a ((Keep.refl (fun _ => False) w).alloc o) (fun _ _ h => h), ?_, fun _ => Iff.rfl⟩, b.alloc b.size o, ?_⟩
  · intro k h1 h2; have := hs.dom a k h2; omega
  · rintro k (h | h)
    · have := b.size; omega
    · exact c k h
/-- A call that only makes memory. -/
theorem Sts.quiet {W w w' : World} {l : List HProp} (hl : ∀ A ∈ l, Stable A) (h : Sts W l w) (k : Below w.heap.size w w') : Sts W l w' := by
  obtain ⟨F, a, b, c⟩ := h
  exact ⟨F, (stars_stable hl).keep a (Keep.of_below (S := fun _ => False) k) (fun _ _ h => h), b.trans (k.mono b.size), c⟩
/-- A call upon the first of the list. -/
theorem Sts.call {α : Type} {P : Program} {f : FuncId} {args : Array Value} {A : HProp} {l : List HProp} {v : α → Value} {A' : α → HProp} {W w : World}
    (hl : ∀ B ∈ l, Stable B) (h : Sts W (A :: l) w) (c : HSpec P f args A v A') :
    Calls P f args w fun e w' => ∃ a, e = .returned (v a) ∧ Sts W (A' a :: l) w' :=
  St.call (stars_stable hl) h c
theorem Sts.callV {P : Program} {f : FuncId} {args : Array Value} {A A' : HProp} {l : List HProp} {v : Value} {W w : World}
    (hl : ∀ B ∈ l, Stable B) (h : Sts W (A :: l) w) (c : HSpecV P f args A v A') :
    Calls P f args w fun e w' => e = .returned v ∧ Sts W (A' :: l) w' :=
  (Sts.call hl h c).mono fun _ _ ⟨_, he, hs⟩ => ⟨he, hs⟩
/-- A store into a block known whole. -/
theorem Sts.store {W w : World} {b j : Nat} {c : Array Value} {t : TypeId} {l : List HProp} (hl : ∀ A ∈ l, Stable A) (h : Sts W (blkP b (.cells c t (0, 0)) :: l) w) (v : Value) :
    Sts W (blkP b (.cells (c.setIfInBounds j v) t (0, 0)) :: l) (w.setCell ⟨b, j, none⟩ v) := by
  obtain ⟨F, ⟨F1, F2, ⟨a, hF1⟩, r, hd, hF⟩, hb, hn⟩ := h
  have hk : Keep (fun k => k = b) w (w.setCell ⟨b, j, none⟩ v) := (Keep.refl (fun k => k = b) w).setCell (p := ⟨b, j, none⟩) (fun _ => rfl) v
  refine ⟨F, ⟨F1, F2, ⟨set_blk a, hF1⟩, (stars_stable hl).keep r hk (fun k h2 h1 => hd k ((hF1 k).2 h1) h2), hd, hF⟩, ?_, hn⟩
  exact hb.setCell (hn b ((hF b).2 (Or.inl ((hF1 b).2 rfl)))) v
end Go.Proofs.Num
