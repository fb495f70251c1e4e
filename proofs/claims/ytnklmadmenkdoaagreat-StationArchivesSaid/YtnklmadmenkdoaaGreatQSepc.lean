/- Assertions on memory with the blocks that they speak of; what a call does to one assertion leaves the others. No program in sight. More on assertions on memory; slices that read as a list; new rows. No program in sight. Slices that stay readable as long as an assertion's neighbours hold; rows that grow. No program in sight. -/
import Derived.Test.YtnklmadmenkdoaaGreatQKeep
import Derived.Deep.AppendLies
set_option linter.unusedVariables false
set_option linter.unusedSimpArgs false
namespace Go.Proofs.Num
open Go.RowKit
abbrev HProp := World → (Nat → Prop) → Prop
/-- It speaks of blocks that are there, and holds as long as they are kept. -/
structure Stable (A : HProp) : Prop where
  dom : ∀ {w F}, A w F → ∀ k, F k → k < w.heap.size
  keep : ∀ {w w' F S}, A w F → Keep S w w' → (∀ k, F k → ¬ S k) → A w' F
def emp : HProp := fun _ F => ∀ k, ¬ F k
def star (A B : HProp) : HProp := fun w F => ∃ F1 F2, A w F1 ∧ B w F2 ∧ (∀ k, F1 k → ¬ F2 k) ∧ (∀ k, F k ↔ F1 k ∨ F2 k)
def stars : List HProp → HProp
  | [] => emp
  | A :: l => star A (stars l)
theorem emp_stable : Stable emp := ⟨fun h k hk => absurd hk (h k), fun h _ _ => h⟩
theorem star_stable {A B : HProp} (hA : Stable A) (hB : Stable B) : Stable (star A B) where
  dom := by
    rintro w F ⟨F1, F2, a, b, _, hF⟩ k hk
    rcases (hF k).1 hk with h | h
    · exact hA.dom a k h
    · exact hB.dom b k h
  keep := by
    rintro w w' F S ⟨F1, F2, a, b, hd, hF⟩ hk hS
    exact ⟨F1, F2, hA.keep a hk (fun k h => hS k ((hF k).2 (Or.inl h))), hB.keep b hk (fun k h => hS k ((hF k).2 (Or.inr h))), hd, hF⟩
theorem stars_stable {l : List HProp} (h : ∀ A ∈ l, Stable A) : Stable (stars l) := by
  induction l with
  | nil => exact emp_stable
  | cons A l ih => exact star_stable (h A (by simp)) (ih fun B hB => h B (by simp [hB]))
/-- A block known whole. -/
def blkP (b : Nat) (o : Obj) : HProp := fun w F => w.heap[b]? = some o ∧ ∀ k, F k ↔ k = b
theorem blkP_stable (b : Nat) (o : Obj) : Stable (blkP b o) where
  dom := by rintro w F ⟨h, hF⟩ k hk; rw [(hF k).1 hk]; exact lt_of_heap h
  keep := by rintro w w' F S ⟨h, hF⟩ hk hS; exact ⟨hk.heap h (hS b ((hF b).2 rfl)), hF⟩
/-- A row of cells that a slice owns. -/
def rowP (e : TypeId) (size : Nat) (v : Value) (n : Nat) (xs : List Value) : HProp := fun w F => w.ownsRow 0 e size v n xs ∧ ∀ k, F k ↔ v.ownBlock = some k
theorem rowP_stable (e : TypeId) (size : Nat) (v : Value) (n : Nat) (xs : List Value) : Stable (rowP e size v n xs) where
  dom := by rintro w F ⟨h, hF⟩ k hk; exact (h.lt k ((hF k).1 hk)).2
  keep := by rintro w w' F S ⟨h, hF⟩ hk hS; exact ⟨hk.ownsRow h (fun k hv => hS k ((hF k).2 hv)), hF⟩
/-- The world w has come of W by new memory alone, and of the new blocks A holds. -/
def St (W : World) (A : HProp) (w : World) : Prop := ∃ F, A w F ∧ Below W.heap.size W w ∧ ∀ k, F k → W.heap.size ≤ k
/-- What a call does to what it is handed: it leaves all other blocks; what it hands back lies there or in new blocks. -/
def HSpec {α : Type} (P : Program) (f : FuncId) (args : Array Value) (A : HProp) (v : α → Value) (A' : α → HProp) : Prop :=
  ∀ w F, A w F → Calls P f args w fun e w' => ∃ a F', e = .returned (v a) ∧ A' a w' F' ∧ Keep F w w' ∧ ∀ k, F' k → F k ∨ w.heap.size ≤ k
theorem St.call {α : Type} {P : Program} {f : FuncId} {args : Array Value} {A R : HProp} {v : α → Value} {A' : α → HProp} {W w : World}
    (hR : Stable R) (h : St W (star A R) w) (c : HSpec P f args A v A') :
    Calls P f args w fun e w' => ∃ a, e = .returned (v a) ∧ St W (star (A' a) R) w' := by
  obtain ⟨F, ⟨F1, F2, ha, hr, hd, hF⟩, hb, hn⟩ := h
  refine (c w F1 ha).mono ?_
  rintro e w' ⟨a, F', he, ha', hk, hnew⟩
  refine ⟨a, he, fun k => F' k ∨ F2 k, ⟨F', F2, ha', hR.keep hr hk (fun k h2 h1 => hd k h1 h2), ?_, fun k => Iff.rfl⟩, ?_, ?_⟩
  · intro k h1 h2
    rcases hnew k h1 with h | h
    · exact hd k h h2
    · have := hR.dom hr k h2; omega
  · exact Keep.below hb hk hb.size (fun k h1 => hn k ((hF k).2 (Or.inl h1)))
  · rintro k (h | h)
    · rcases hnew k h with h1 | h1
      · exact hn k ((hF k).2 (Or.inl h1))
      · have := hb.size; omega
    · exact hn k ((hF k).2 (Or.inr h))
/-- Fixed value. -/
def HSpecV (P : Program) (f : FuncId) (args : Array Value) (A : HProp) (v : Value) (A' : HProp) : Prop := HSpec P f args A (fun _ : Unit => v) (fun _ => A')
theorem star_comm {A B : HProp} {w : World} {F : Nat → Prop} (h : star A B w F) : star B A w F := by
  obtain ⟨F1, F2, a, b, hd, hF⟩ := h
  exact ⟨F2, F1, b, a, fun k h2 h1 => hd k h1 h2, fun k => by rw [hF k, or_comm]⟩
theorem star_left {A B C : HProp} {w : World} {F : Nat → Prop} (h : star A (star B C) w F) : star B (star A C) w F := by
  obtain ⟨F1, F2, a, ⟨F3, F4, b, c, hd2, hF2⟩, hd, hF⟩ := h
  refine ⟨F3, fun k => F1 k ∨ F4 k, b, ⟨F1, F4, a, c, fun k h1 h4 => hd k h1 ((hF2 k).2 (Or.inr h4)), fun k => Iff.rfl⟩, ?_, ?_⟩
  · rintro k h3 (h1 | h4)
    · exact hd k h1 ((hF2 k).2 (Or.inl h3))
    · exact hd2 k h3 h4
  · intro k; rw [hF k, hF2 k]; exact ⟨fun h => by rcases h with h | h | h <;> simp [h], fun h => by rcases h with h | h | h <;> simp [h]⟩
theorem star_mono {A A' B B' : HProp} {w : World} {F : Nat → Prop} (hA : ∀ F, A w F → A' w F) (hB : ∀ F, B w F → B' w F) (h : star A B w F) : star A' B' w F := by
  obtain ⟨F1, F2, a, b, r⟩ := h; exact ⟨F1, F2, hA _ a, hB _ b, r⟩
theorem stars_perm {l m : List HProp} (h : l.Perm m) : ∀ {w : World} {F : Nat → Prop}, stars l w F → stars m w F := by
  induction h with
  | nil => exact fun h => h
  | cons A _ ih => exact fun h => star_mono (fun _ h => h) (fun _ h => ih h) h
  | swap A B l => exact fun h => star_left h
  | trans _ _ ih1 ih2 => exact fun h => ih2 (ih1 h)
theorem stars_app {l m : List HProp} : ∀ {w : World} {F : Nat → Prop}, stars (l ++ m) w F ↔ star (stars l) (stars m) w F := by
  induction l with
  | nil =>
    intro w F
    constructor
    · intro h; exact ⟨fun _ => False, F, fun _ h => h, h, fun _ h => h.elim, fun k => by simp⟩
    · rintro ⟨F1, F2, h1, h2, _, hF⟩
      have : F = F2 := by funext k; apply propext; rw [hF k]; exact ⟨fun h => h.elim (fun h => absurd h (h1 k)) id, Or.inr⟩
      rw [this]; exact h2
  | cons A l ih =>
    intro w F
    constructor
    · intro h
      have h := star_mono (A := A) (A' := A) (fun _ h => h) (fun _ h => ih.1 h) h
      have h := star_mono (fun _ h => h) (fun _ h => star_comm h) h
      have h := star_left h
      exact star_comm h
    · intro h
      have h := star_comm h
      have h := star_left h
      have h := star_mono (A := A) (A' := A) (fun _ h => h) (fun _ h => star_comm h) h
      exact star_mono (fun _ h => h) (fun _ h => ih.2 h) h
/-- A list of assertions. -/
def Sts (W : World) (l : List HProp) (w : World) : Prop := St W (stars l) w
theorem Sts.perm {W w : World} {l m : List HProp} (h : Sts W l w) (p : l.Perm m) : Sts W m w := by
  obtain ⟨F, a, b, c⟩ := h; exact ⟨F, stars_perm p a, b, c⟩
theorem Sts.below {W w : World} {l : List HProp} (h : Sts W l w) : Below W.heap.size W w := by obtain ⟨F, a, b, c⟩ := h; exact b
theorem Sts.nil (W : World) : Sts W [] W := ⟨fun _ => False, fun _ h => h, Below.refl _ _, fun _ h => h.elim⟩
theorem Sts.drew {W w : World} {l : List HProp} (hl : ∀ A ∈ l, Stable A) (h : Sts W l w) : Sts W l w.drew := by
  obtain ⟨F, a, b, c⟩ := h; exact ⟨F, (stars_stable hl).keep a ((Keep.refl (fun _ => False) w).drew) (fun _ _ h => h), b.drew, c⟩
/-- The first of the list. -/
theorem Sts.head {W w : World} {A : HProp} {l : List HProp} (h : Sts W (A :: l) w) : ∃ F, A w F := by
  obtain ⟨F, ⟨F1, F2, a, _⟩, _⟩ := h; exact ⟨F1, a⟩
theorem Sts.tail {W w : World} {A : HProp} {l : List HProp} (h : Sts W (A :: l) w) : Sts W l w := by
  obtain ⟨F, ⟨F1, F2, a, b, hd, hF⟩, hb, hn⟩ := h; exact ⟨F2, b, hb, fun k hk => hn k ((hF k).2 (Or.inr hk))⟩
theorem Sts.mem {W w : World} {A : HProp} {l : List HProp} (h : Sts W l w) (hA : A ∈ l) : ∃ F, A w F := by
  induction l with
  | nil => simp at hA
  | cons B l ih =>
    rcases List.mem_cons.1 hA with rfl | hA
    · exact h.head
    · exact ih h.tail hA
theorem Sts.swap {W w : World} {A B : HProp} {l : List HProp} (h : Sts W (A :: B :: l) w) : Sts W (B :: A :: l) w := h.perm (List.Perm.swap B A l)
/-- The third comes to the front. -/
theorem Sts.third {W w : World} {A B C : HProp} {l : List HProp} (h : Sts W (A :: B :: C :: l) w) : Sts W (C :: A :: B :: l) w :=
  h.perm (((List.Perm.swap C B l).cons A).trans (List.Perm.swap C A (B :: l)))
/-- The first goes behind the next two. -/
theorem Sts.third' {W w : World} {A B C : HProp} {l : List HProp} (h : Sts W (A :: B :: C :: l) w) : Sts W (B :: C :: A :: l) w :=
  h.perm ((List.Perm.swap B A (C :: l)).trans ((List.Perm.swap C A l).cons B))
theorem Sts.weaken {W w : World} {A B : HProp} {l : List HProp} (h : Sts W (A :: l) w) (hAB : ∀ F, A w F → B w F) : Sts W (B :: l) w := by
  obtain ⟨F, a, b, c⟩ := h; exact ⟨F, star_mono hAB (fun _ h => h) a, b, c⟩
/-- Two of a list as one. -/
theorem Sts.join {W w : World} {A B C : HProp} {l : List HProp} (h : Sts W (A :: B :: l) w) (hj : ∀ F, star A B w F → C w F) : Sts W (C :: l) w := by
  obtain ⟨F, a, b, c⟩ := h
  have a1 : star A (star B (stars l)) w F := a
  have a2 : star (star A B) (stars l) w F := by
    have h1 := stars_app (l := [A, B]) (m := l) (w := w) (F := F) |>.1 a1
    refine star_mono (fun F h => ?_) (fun _ h => h) h1
    obtain ⟨F1, F2, x, ⟨F3, F4, y, z, d1, d2⟩, hd, hF⟩ := h
    refine ⟨F1, F3, x, y, fun k h1 h3 => hd k h1 ((d2 k).2 (Or.inl h3)), fun k => ?_⟩
    rw [hF k, d2 k]
    exact ⟨fun h => by rcases h with h | h | h; exact Or.inl h; exact Or.inr h; exact absurd h (z k), fun h => by rcases h with h | h; exact Or.inl h; exact Or.inr (Or.inl h)⟩
  exact ⟨F, star_mono hj (fun _ h => h) a2, b, c⟩
/-- A new block. -/
theorem Sts.alloc {W w : World} {l : List HProp} (hl : ∀ A ∈ l, Stable A) (h : Sts W l w) (o : Obj) : Sts W (blkP w.heap.size o :: l) (w.alloc o) := by
  obtain ⟨F, a, b, c⟩ := h
  have hs := stars_stable hl
  refine ⟨fun k => k = w.heap.size ∨ F k, ⟨fun k => k = w.heap.size, F, ⟨heap_new w o rfl, fun _ => Iff.rfl⟩, hs.keep a ((Keep.refl (fun _ => False) w).alloc o) (fun _ _ h => h), ?_, fun _ => Iff.rfl⟩, b.alloc b.size o, ?_⟩
  · intro k h1 h2; have := hs.dom a k h2; omega
  · rintro k (h | h)
    · have := b.size; omega
    · exact c k h
/-- A call that only makes memory. -/
theorem Sts.quiet {W w w' : World} {l : List HProp} (hl : ∀ A ∈ l, Stable A) (h : Sts W l w) (k : Below w.heap.size w w') : Sts W l w' := by
  obtain ⟨F, a, b, c⟩ := h
  exact ⟨F, (stars_stable hl).keep a (Keep.of_below (S := fun _ => False) k) (fun _ _ h => h), b.trans (k.mono b.size), c⟩
/-- A call upon the first of the list. -/
theorem Sts.call {α : Type} {P : Program} {f : FuncId} {args : Array Value} {A : HProp} {l : List HProp} {v : α → Value} {A' : α → HProp} {W w : World}
    (hl : ∀ B ∈ l, Stable B) (h : Sts W (A :: l) w) (c : HSpec P f args A v A') :
    Calls P f args w fun e w' => ∃ a, e = .returned (v a) ∧ Sts W (A' a :: l) w' :=
  St.call (stars_stable hl) h c
theorem Sts.callV {P : Program} {f : FuncId} {args : Array Value} {A A' : HProp} {l : List HProp} {v : Value} {W w : World}
    (hl : ∀ B ∈ l, Stable B) (h : Sts W (A :: l) w) (c : HSpecV P f args A v A') :
    Calls P f args w fun e w' => e = .returned v ∧ Sts W (A' :: l) w' :=
  (Sts.call hl h c).mono fun _ _ ⟨_, he, hs⟩ => ⟨he, hs⟩
/-- A store into a block known whole. -/
theorem Sts.store {W w : World} {b j : Nat} {c : Array Value} {t : TypeId} {l : List HProp} (hl : ∀ A ∈ l, Stable A) (h : Sts W (blkP b (.cells c t (0, 0)) :: l) w) (v : Value) :
    Sts W (blkP b (.cells (c.setIfInBounds j v) t (0, 0)) :: l) (w.setCell ⟨b, j, none⟩ v) := by
  obtain ⟨F, ⟨F1, F2, ⟨a, hF1⟩, r, hd, hF⟩, hb, hn⟩ := h
  have hk : Keep (fun k => k = b) w (w.setCell ⟨b, j, none⟩ v) := (Keep.refl (fun k => k = b) w).setCell (p := ⟨b, j, none⟩) (fun _ => rfl) v
  refine ⟨F, ⟨F1, F2, ⟨set_blk a, hF1⟩, (stars_stable hl).keep r hk (fun k h2 h1 => hd k ((hF1 k).2 h1) h2), hd, hF⟩, ?_, hn⟩
  exact hb.setCell (hn b ((hF b).2 (Or.inl ((hF1 b).2 rfl)))) v
end Go.Proofs.Num
namespace Go.Proofs.Num
open Go.RowKit
theorem Sts.withEmp {W w : World} {l : List HProp} (h : Sts W l w) : Sts W (emp :: l) w := by
  obtain ⟨F, a, b, c⟩ := h
  exact ⟨F, ⟨fun _ => False, F, fun _ h => h, a, fun _ h => h.elim, fun k => by simp⟩, b, c⟩
theorem stab0 : ∀ B ∈ ([] : List HProp), Stable B := by intro B hB; simp at hB
theorem stabC {A : HProp} {l : List HProp} (hA : Stable A) (hl : ∀ D ∈ l, Stable D) : ∀ D ∈ A :: l, Stable D := by
  intro D hD; simp at hD; rcases hD with rfl | h
  · exact hA
  · exact hl D h
theorem stab1 {A : HProp} (hA : Stable A) : ∀ B ∈ [A], Stable B := stabC hA stab0
theorem st2 {A B : HProp} {l : List HProp} (hA : Stable A) (hB : Stable B) (hl : ∀ D ∈ l, Stable D) : ∀ D ∈ A :: B :: l, Stable D := stabC hA (stabC hB hl)
theorem st3 {A B C : HProp} {l : List HProp} (hA : Stable A) (hB : Stable B) (hC : Stable C) (hl : ∀ D ∈ l, Stable D) : ∀ D ∈ A :: B :: C :: l, Stable D := stabC hA (st2 hB hC hl)
theorem Sts.nil_below {W w : World} (h : Below W.heap.size W w) : Sts W [] w := ⟨fun _ => False, fun _ h => h, h, fun _ h => h.elim⟩
theorem Sts.split {W w : World} {A B : HProp} {l : List HProp} (h : Sts W (star A B :: l) w) : Sts W (A :: B :: l) w := by
  obtain ⟨F, ⟨F1, F2, ⟨F3, F4, a, b, d1, e1⟩, c, d2, e2⟩, k, n⟩ := h
  refine ⟨F, ⟨F3, fun k => F4 k ∨ F2 k, a, ⟨F4, F2, b, c, fun k h h' => d2 k ((e1 k).2 (Or.inr h)) h', fun k => Iff.rfl⟩, ?_, ?_⟩, k, n⟩
  · rintro k h3 (h4 | h2)
    · exact d1 k h3 h4
    · exact d2 k ((e1 k).2 (Or.inl h3)) h2
  · intro k; rw [e2 k, e1 k, or_assoc]
theorem box_cell {w : World} {F : Nat → Prop} {b j : Nat} {cs : Array Value} {t : TypeId} {v : Value} (h : blkP b (.cells cs t (0, 0)) w F) (hv : cs[j]? = some v) : w.cell? ⟨b, j, none⟩ = some v := cell_blk h.1 hv
theorem Sts.boxCell {W w : World} {b : Nat} {cs : Array Value} {t : TypeId} {l : List HProp} (h : Sts W (blkP b (.cells cs t (0, 0)) :: l) w) (j : Nat) (v : Value) (hv : cs[j]? = some v) :
    w.cell? ⟨b, j, none⟩ = some v ∧ w.frozen? ⟨b, j, none⟩ = false := by
  obtain ⟨F, hb⟩ := h.head; exact ⟨box_cell hb hv, free_blk hb.1⟩
section
variable {W w : World} {e : TypeId} {g cap n : Nat} {xs : List Value} {l : List HProp}
theorem Sts.rowCell (h : Sts W (rowP e 1 (.slice (some ⟨g, 0, none⟩) n cap) n xs :: l) w) (i : Nat) (hi : i < n) (v : Value) (hv : xs[i]? = some v) : w.cell? ⟨g, i, none⟩ = some v := by
  obtain ⟨F, h, _⟩ := h.head
  rw [h.cellAt i (by omega), hv]
theorem Sts.rowFree (h : Sts W (rowP e 1 (.slice (some ⟨g, 0, none⟩) n cap) n xs :: l) w) (i : Nat) : w.frozen? ⟨g, i, none⟩ = false := by
  obtain ⟨F, h, _⟩ := h.head; exact h.frozenAt i
theorem Sts.rowStore (hl : ∀ A ∈ l, Stable A) (h : Sts W (rowP e 1 (.slice (some ⟨g, 0, none⟩) n cap) n xs :: l) w) (i : Nat) (v : Value) :
    Sts W (rowP e 1 (.slice (some ⟨g, 0, none⟩) n cap) n (xs.set i v) :: l) (w.setCell ⟨g, i, none⟩ v) := by
  obtain ⟨F, ⟨F1, F2, ⟨a, hF1⟩, r, hd, hF⟩, hb, hn⟩ := h
  have hg : ∀ k, F1 k ↔ k = g := fun k => by rw [hF1 k]; simp [Value.ownBlock]; exact eq_comm
  have hk : Keep (fun k => k = g) w (w.setCell ⟨g, i, none⟩ v) := (Keep.refl (fun k => k = g) w).setCell (p := ⟨g, i, none⟩) (fun _ => rfl) v
  refine ⟨F, ⟨F1, F2, ⟨?_, hF1⟩, (stars_stable hl).keep r hk (fun k h2 h1 => hd k ((hg k).2 h1) h2), hd, hF⟩, ?_, hn⟩
  · have := (a.stored i v).1; simpa using this
  · exact hb.setCell (hn g ((hF g).2 (Or.inl ((hg g).2 rfl)))) v
end
theorem own_base {w : World} {b c : Nat} {e : TypeId} {s n : Nat} {v : Value} {xs : List Value} (h : w.ownsRow b e s v n xs) (hc : c ≤ b) : w.ownsRow c e s v n xs := by
  obtain ⟨h1, h2⟩ := h
  refine ⟨h1, ?_⟩
  rcases h2 with h2 | ⟨g, cap, cur, hv, hg, r⟩
  · exact Or.inl h2
  · exact Or.inr ⟨g, cap, cur, hv, by omega, r⟩
theorem own_some {w : World} {b : Nat} {e : TypeId} {s n : Nat} {v : Value} {xs : List Value} (h : w.ownsRow b e s v n xs) (hv : v ≠ .slice none 0 0) :
    ∃ g cap, v = .slice (some ⟨g, 0, none⟩) n cap ∧ b ≤ g := by
  rcases h.2 with ⟨h2, _⟩ | ⟨g, cap, cur, hv', hg, r⟩
  · exact absurd h2 hv
  · exact ⟨g, cap, hv', hg⟩
/-- The slice v reads as xs. -/
def Rd (w : World) (v : Value) (xs : List Value) : Prop := ∃ a cap, v = .slice a xs.length cap ∧ (xs.length ≤ cap ∧ cap ≤ maxLen) ∧ ∀ j, (h : j < xs.length) → ∃ b off, a = some ⟨b, off, none⟩ ∧ b < w.heap.size ∧ w.cell? ⟨b, off + j, none⟩ = some xs[j]
theorem Rd.below {w w' : World} {v : Value} {xs : List Value} (h : Rd w v xs) (k : Below w.heap.size w w') : Rd w' v xs := by
  obtain ⟨a, cap, rfl, hn, hc⟩ := h
  refine ⟨a, cap, rfl, hn, fun j hj => ?_⟩
  obtain ⟨b, off, rfl, hb, hx⟩ := hc j hj
  exact ⟨b, off, rfl, by have := k.size; omega, by rw [k.cell hb]; exact hx⟩
theorem Rd.take {w : World} {a : Option Addr} {n cap : Nat} {xs : List Value} (h : Rd w (.slice a n cap) xs) (k : Nat) (hk : k ≤ xs.length) (cap' : Nat) (hc' : k ≤ cap' ∧ cap' ≤ maxLen) : Rd w (.slice a k cap') (xs.take k) := by
  obtain ⟨a', cap1, e, hn, hc⟩ := h
  injection e with e1 e2 e3; subst e1
  refine ⟨a, cap', by simp [Nat.min_eq_left hk], by simpa [Nat.min_eq_left hk] using hc', fun j hj => ?_⟩
  simp at hj
  obtain ⟨b, off, rfl, hb, hx⟩ := hc j (by omega)
  exact ⟨b, off, rfl, hb, by simpa using hx⟩
theorem Rd.nil (w : World) (a : Option Addr) (cap : Nat) (h : cap ≤ maxLen) : Rd w (.slice a 0 cap) [] := ⟨a, cap, rfl, ⟨by simp, h⟩, fun j hj => absurd hj (by simp)⟩
/-- What lies behind its head. -/
theorem Rd.drop {w : World} {a : Option Addr} {n cap : Nat} {xs : List Value} (h : Rd w (.slice a n cap) xs) (k : Nat) (hk : k ≤ xs.length) (a' : Option Addr) (cap' : Nat) (hc' : xs.length - k ≤ cap' ∧ cap' ≤ maxLen)
    (ha : ∀ b off, k < xs.length → a = some ⟨b, off, none⟩ → a' = some ⟨b, off + k, none⟩) : Rd w (.slice a' (xs.length - k) cap') (xs.drop k) := by
  obtain ⟨a1, cap1, e, hn, hc⟩ := h
  injection e with e1 e2 e3; subst e1
  refine ⟨a', cap', by simp, by simpa using hc', fun j hj => ?_⟩
  simp at hj
  obtain ⟨b, off, hab, hb, hx⟩ := hc (k + j) (by omega)
  exact ⟨b, off + k, ha b off (by omega) hab, hb, by rw [Nat.add_assoc]; simpa using hx⟩
theorem Rd.of_own {w : World} {b : Nat} {e : TypeId} {v : Value} {n : Nat} {xs : List Value} (h : w.ownsRow b e 1 v n xs) (hn : xs.length = n) : Rd w v xs := by
  rcases h.2 with ⟨h2, h3⟩ | ⟨g, cap, cur, hv', hg, _, hc1, hc2, r⟩
  · subst h2; subst h3
    have := List.eq_nil_of_length_eq_zero hn; subst this; exact Rd.nil _ _ _ (by unfold maxLen; omega)
  · subst hv'
    have hlt := (h.lt g rfl).2
    refine ⟨_, cap, by rw [hn], ⟨by omega, hc2⟩, fun j hj => ⟨g, 0, rfl, hlt, ?_⟩⟩
    rw [Nat.zero_add, h.cellAt j (by omega)]; simp
theorem Rd.eq {w : World} {v : Value} {xs : List Value} (h : Rd w v xs) : ∃ a cap, v = .slice a xs.length cap := by
  obtain ⟨a, cap, h, _⟩ := h; exact ⟨a, cap, h⟩
theorem Rd.cap {w : World} {a : Option Addr} {n cap : Nat} {xs : List Value} (h : Rd w (.slice a n cap) xs) : n = xs.length ∧ n ≤ cap ∧ cap ≤ maxLen := by
  obtain ⟨a', cap', e, hn, hc⟩ := h
  injection e with e1 e2 e3
  omega
/-- A new row: made since w. -/
structure New (w w' : World) (e : TypeId) (v : Value) (ys : List Value) : Prop where
  own : w'.ownsRow w.heap.size e 1 v ys.length ys
  below : Below w.heap.size w w'
theorem New.rd {w w' : World} {e : TypeId} {v : Value} {ys : List Value} (h : New w w' e v ys) : Rd w' v ys := Rd.of_own h.own rfl
theorem New.of {W w w' : World} {e : TypeId} {v : Value} {ys : List Value} (h : Below W.heap.size W w) (k : New w w' e v ys) : New W w' e v ys := ⟨own_base k.own h.size, h.trans (k.below.mono h.size)⟩
theorem New.later {w w1 w2 : World} {e : TypeId} {v : Value} {ys : List Value} (h : New w w1 e v ys) (k : Below w1.heap.size w1 w2) : New w w2 e v ys :=
  ⟨(Keep.of_below (S := fun _ => False) k).ownsRow h.own (fun _ _ h => h), h.below.trans (k.mono h.below.size)⟩
theorem Sts.new {W w w' : World} {l : List HProp} {e : TypeId} {v : Value} {ys : List Value} (hl : ∀ A ∈ l, Stable A) (h : Sts W l w) (k : New w w' e v ys) : Sts W (rowP e 1 v ys.length ys :: l) w' := by
  obtain ⟨F, b, c, d⟩ := h
  have hs := stars_stable hl
  have hv : ∀ k, v.ownBlock = some k → w.heap.size ≤ k := fun k' hk => (k.own.lt k' hk).1
  refine ⟨fun k => v.ownBlock = some k ∨ F k, ⟨fun k => v.ownBlock = some k, F, ⟨own_base k.own (Nat.zero_le _), fun k => Iff.rfl⟩, hs.keep b (Keep.of_below (S := fun _ => False) k.below) (fun _ _ h => h), ?_, fun k => Iff.rfl⟩, c.trans (k.below.mono c.size), ?_⟩
  · intro k' h1 h2; have := hs.dom b k' h2; have := hv k' h1; omega
  · rintro k' (h | h)
    · have := c.size; have := hv k' h; omega
    · exact d k' h
theorem Sts.rd {W w : World} {l : List HProp} {e : TypeId} {v : Value} {ys : List Value} (h : Sts W (rowP e 1 v ys.length ys :: l) w) : Rd w v ys := by
  obtain ⟨F, h, _⟩ := h.head; exact Rd.of_own h rfl
def u8s (l : List Nat) : List Value := l.map fun x => .int .u8 (x : Nat)
def u32s (l : List Nat) : List Value := l.map fun x => .int .u32 (x : Nat)
theorem u8s_len (l : List Nat) : (u8s l).length = l.length := by simp [u8s]
theorem u32s_len (l : List Nat) : (u32s l).length = l.length := by simp [u32s]
/-- Reads as bytes; as words. -/
def RdB (w : World) (v : Value) (l : List Nat) : Prop := Rd w v (u8s l) ∧ ∀ x ∈ l, x < 256
def RdW (w : World) (v : Value) (l : List Nat) : Prop := Rd w v (u32s l) ∧ ∀ x ∈ l, x < 4294967296
theorem RdB.open {w : World} {v : Value} {l : List Nat} (h : RdB w v l) : ∃ a cap, v = .slice a l.length cap ∧ ∀ j, (h : j < l.length) → ∃ b off, a = some ⟨b, off, none⟩ ∧ b < w.heap.size ∧ w.cell? ⟨b, off + j, none⟩ = some (.int .u8 (l[j] : Nat)) := by
  obtain ⟨⟨a, cap, h1, _, h2⟩, _⟩ := h
  refine ⟨a, cap, by rw [h1, u8s_len], fun j hj => ?_⟩
  obtain ⟨b, off, h3, h4, h5⟩ := h2 j (by rw [u8s_len]; exact hj)
  exact ⟨b, off, h3, h4, by simpa [u8s] using h5⟩
theorem RdW.open {w : World} {v : Value} {l : List Nat} (h : RdW w v l) : ∃ a cap, v = .slice a l.length cap ∧ ∀ j, (h : j < l.length) → ∃ b off, a = some ⟨b, off, none⟩ ∧ b < w.heap.size ∧ w.cell? ⟨b, off + j, none⟩ = some (.int .u32 (l[j] : Nat)) := by
  obtain ⟨⟨a, cap, h1, _, h2⟩, _⟩ := h
  refine ⟨a, cap, by rw [h1, u32s_len], fun j hj => ?_⟩
  obtain ⟨b, off, h3, h4, h5⟩ := h2 j (by rw [u32s_len]; exact hj)
  exact ⟨b, off, h3, h4, by simpa [u32s] using h5⟩
theorem RdB.below {w w' : World} {v : Value} {l : List Nat} (h : RdB w v l) (k : Below w.heap.size w w') : RdB w' v l := ⟨h.1.below k, h.2⟩
theorem RdW.below {w w' : World} {v : Value} {l : List Nat} (h : RdW w v l) (k : Below w.heap.size w w') : RdW w' v l := ⟨h.1.below k, h.2⟩
end Go.Proofs.Num
namespace Go.Proofs.Num
open Go.RowKit
/-- The slice v reads as xs wherever the assertions l hold beside one more. -/
def Rds (W : World) (l : List HProp) (v : Value) (xs : List Value) : Prop := ∀ A w, Sts W (A :: l) w → Rd w v xs
theorem Rds.arg {W : World} {l : List HProp} {v : Value} {xs : List Value} (h : Rd W v xs) : Rds W l v xs := fun A w hs => h.below hs.below
theorem Rds.row {W : World} {l : List HProp} {e : TypeId} {v : Value} {n : Nat} {xs : List Value} (hn : xs.length = n) (h : rowP e 1 v n xs ∈ l) : Rds W l v xs := by
  intro A w hs
  obtain ⟨F, hr, _⟩ := hs.tail.mem h
  exact Rd.of_own hr hn
def RdsW (W : World) (l : List HProp) (v : Value) (xs : List Nat) : Prop := Rds W l v (u32s xs) ∧ ∀ x ∈ xs, x < 4294967296
def RdsB (W : World) (l : List HProp) (v : Value) (xs : List Nat) : Prop := Rds W l v (u8s xs) ∧ ∀ x ∈ xs, x < 256
theorem RdsW.at {W w : World} {l : List HProp} {A : HProp} {v : Value} {xs : List Nat} (h : RdsW W l v xs) (hs : Sts W (A :: l) w) : RdW w v xs := ⟨h.1 A w hs, h.2⟩
theorem RdsB.at {W w : World} {l : List HProp} {A : HProp} {v : Value} {xs : List Nat} (h : RdsB W l v xs) (hs : Sts W (A :: l) w) : RdB w v xs := ⟨h.1 A w hs, h.2⟩
theorem RdsW.arg {W : World} {l : List HProp} {v : Value} {xs : List Nat} (h : RdW W v xs) : RdsW W l v xs := ⟨Rds.arg h.1, h.2⟩
theorem RdsB.arg {W : World} {l : List HProp} {v : Value} {xs : List Nat} (h : RdB W v xs) : RdsB W l v xs := ⟨Rds.arg h.1, h.2⟩
/-- The row at the head has grown. -/
theorem Sts.grown {W w w1 : World} {l : List HProp} {e : TypeId} {v v' : Value} {n n' : Nat} {xs xs' : List Value} (hl : ∀ A ∈ l, Stable A) (h : Sts W (rowP e 1 v n xs :: l) w)
    (hg : w.grownBy w1 v.ownBlock) (ho : w1.ownsRow 0 e 1 v' n' xs') (hv : ∀ k, v'.ownBlock = some k → v.ownBlock = some k ∨ w.heap.size ≤ k) : Sts W (rowP e 1 v' n' xs' :: l) w1 := by
  obtain ⟨F, ⟨F1, F2, ⟨a, hF1⟩, r, hd, hF⟩, hb, hn⟩ := h
  have hs := stars_stable hl
  have hk : Keep F1 w w1 := Keep.of_grown hg (fun k hk _ => (hF1 k).2 hk)
  refine ⟨fun k => v'.ownBlock = some k ∨ F2 k, ⟨fun k => v'.ownBlock = some k, F2, ⟨ho, fun k => Iff.rfl⟩, hs.keep r hk (fun k h2 h1 => hd k h1 h2), ?_, fun k => Iff.rfl⟩, ?_, ?_⟩
  · intro k h1 h2
    rcases hv k h1 with h | h
    · exact hd k ((hF1 k).2 h) h2
    · have := hs.dom r k h2; omega
  · exact hb.grown hg hb.size (fun k hk => hn k ((hF k).2 (Or.inl ((hF1 k).2 hk))))
  · rintro k (h | h)
    · rcases hv k h with h' | h'
      · exact hn k ((hF k).2 (Or.inl ((hF1 k).2 h')))
      · have := hb.size; omega
    · exact hn k ((hF k).2 (Or.inr h))
theorem Sts.rowOwn {W w : World} {l : List HProp} {e : TypeId} {v : Value} {n : Nat} {xs : List Value} (h : Sts W (rowP e 1 v n xs :: l) w) : w.ownsRow 0 e 1 v n xs := by
  obtain ⟨F, a, _⟩ := h.head; exact a
/-- An empty row. -/
theorem Sts.rowNil {W w : World} {l : List HProp} (e : TypeId) (h : Sts W l w) : Sts W (rowP e 1 (.slice none 0 0) 0 [] :: l) w := by
  obtain ⟨F, a, b, c⟩ := h
  exact ⟨F, ⟨fun _ => False, F, ⟨⟨by simp, Or.inl ⟨rfl, rfl⟩⟩, fun k => by simp [Value.ownBlock]⟩, a, fun _ h => h.elim, fun k => by simp⟩, b, c⟩
/-- A new block that nobody keeps. -/
theorem Sts.box {W w : World} {l : List HProp} (hl : ∀ A ∈ l, Stable A) (h : Sts W l w) (o : Obj) : Sts W l (w.alloc o) := h.quiet hl ((Below.refl _ _).alloc (Nat.le_refl _) _)
end Go.Proofs.Num
