/- Finite sets of integers as lists of half-open ranges: one list for each set. No program in sight. -/
set_option linter.unusedVariables false
namespace Rng
abbrev R := Int × Int
def Mem (m : Int) (l : List R) : Prop := ∃ r ∈ l, r.1 ≤ m ∧ m < r.2
def Valid (l : List R) : Prop := (∀ r ∈ l, r.1 < r.2) ∧ l.Pairwise (fun a b => a.2 < b.1)
theorem Valid.nil : Valid [] := ⟨by simp, List.Pairwise.nil⟩
theorem valid_cons {a : R} {l : List R} : Valid (a :: l) ↔ a.1 < a.2 ∧ (∀ r ∈ l, a.2 < r.1) ∧ Valid l := by
  unfold Valid
  rw [List.pairwise_cons]
  constructor
  · rintro ⟨h1, h2, h3⟩
    exact ⟨h1 a (by simp), h2, fun r hr => h1 r (by simp [hr]), h3⟩
  · rintro ⟨h1, h2, h3, h4⟩
    refine ⟨fun r hr => ?_, h2, h4⟩
    rcases List.mem_cons.1 hr with rfl | hr
    · exact h1
    · exact h3 r hr
theorem mem_cons {m : Int} {a : R} {l : List R} : Mem m (a :: l) ↔ (a.1 ≤ m ∧ m < a.2) ∨ Mem m l := by
  unfold Mem
  constructor
  · rintro ⟨r, hr, h⟩
    rcases List.mem_cons.1 hr with rfl | hr
    · exact Or.inl h
    · exact Or.inr ⟨r, hr, h⟩
  · rintro (h | ⟨r, hr, h⟩)
    · exact ⟨a, by simp, h⟩
    · exact ⟨r, by simp [hr], h⟩
theorem mem_nil {m : Int} : ¬ Mem m [] := by rintro ⟨r, hr, _⟩; simp at hr
theorem mem_app {m : Int} {a b : List R} : Mem m (a ++ b) ↔ Mem m a ∨ Mem m b := by
  unfold Mem
  constructor
  · rintro ⟨r, hr, h⟩
    rcases List.mem_append.1 hr with hr | hr
    · exact Or.inl ⟨r, hr, h⟩
    · exact Or.inr ⟨r, hr, h⟩
  · rintro (⟨r, hr, h⟩ | ⟨r, hr, h⟩)
    · exact ⟨r, by simp [hr], h⟩
    · exact ⟨r, by simp [hr], h⟩
/-- One list for each set. -/
theorem uniq : ∀ {a b : List R}, Valid a → Valid b → (∀ m, Mem m a ↔ Mem m b) → a = b
  | [], [], _, _, _ => rfl
  | [], y :: b, _, hb, h => by
    have h1 := (valid_cons.1 hb).1
    exact absurd ((h y.1).2 (mem_cons.2 (Or.inl ⟨by omega, h1⟩))) mem_nil
  | x :: a, [], ha, _, h => by
    have h1 := (valid_cons.1 ha).1
    exact absurd ((h x.1).1 (mem_cons.2 (Or.inl ⟨by omega, h1⟩))) mem_nil
  | x :: a, y :: b, ha, hb, h => by
    obtain ⟨ha1, ha2, ha3⟩ := valid_cons.1 ha
    obtain ⟨hb1, hb2, hb3⟩ := valid_cons.1 hb
    have lo : ∀ {z : R} {c : List R}, z.1 < z.2 → (∀ r ∈ c, z.2 < r.1) → ∀ {m}, Mem m (z :: c) → z.1 ≤ m := by
      rintro z c h1 h2 m hm
      rcases mem_cons.1 hm with h | ⟨r, hr, h⟩
      · exact h.1
      · have := h2 r hr; omega
    have hi : ∀ {z : R} {c : List R}, (∀ r ∈ c, z.2 < r.1) → ¬ Mem z.2 (z :: c) := by
      rintro z c h2 hm
      rcases mem_cons.1 hm with h | ⟨r, hr, h⟩
      · omega
      · have := h2 r hr; omega
    have e1 : x.1 = y.1 := by
      have p := lo hb1 hb2 ((h x.1).1 (mem_cons.2 (Or.inl ⟨by omega, ha1⟩)))
      have q := lo ha1 ha2 ((h y.1).2 (mem_cons.2 (Or.inl ⟨by omega, hb1⟩)))
      omega
    have e2 : x.2 = y.2 := by
      rcases Int.lt_trichotomy x.2 y.2 with hlt | heq | hlt
      · exact absurd ((h x.2).2 (mem_cons.2 (Or.inl ⟨by omega, hlt⟩))) (hi ha2)
      · exact heq
      · exact absurd ((h y.2).1 (mem_cons.2 (Or.inl ⟨by omega, hlt⟩))) (hi hb2)
    have e : x = y := Prod.ext e1 e2
    subst e
    rw [uniq ha3 hb3 fun m => ?_]
    constructor
    · intro hm
      have h1 := (h m).1 (mem_cons.2 (Or.inr hm))
      rcases mem_cons.1 h1 with h2 | h2
      · obtain ⟨r, hr, h3⟩ := hm; have := ha2 r hr; omega
      · exact h2
    · intro hm
      have h1 := (h m).2 (mem_cons.2 (Or.inr hm))
      rcases mem_cons.1 h1 with h2 | h2
      · obtain ⟨r, hr, h3⟩ := hm; have := hb2 r hr; omega
      · exact h2
/-- A range put in: the specification's way. -/
def ins : List R → R → List R
  | [], r => [r]
  | x :: l, r => if x.2 < r.1 then x :: ins l r else if x.1 ≤ r.2 then ins l (min r.1 x.1, max r.2 x.2) else r :: x :: l
theorem ins_spec : ∀ (l : List R) (r : R), Valid l → r.1 < r.2 → Valid (ins l r) ∧ (∀ m, Mem m (ins l r) ↔ (r.1 ≤ m ∧ m < r.2) ∨ Mem m l) ∧ ∀ b : Int, b < r.1 → (∀ x ∈ l, b < x.1) → ∀ x ∈ ins l r, b < x.1
  | [], r, _, hr => by
    refine ⟨valid_cons.2 ⟨hr, by simp, Valid.nil⟩, fun m => ?_, fun b hb _ x hx => ?_⟩
    · unfold ins; rw [mem_cons]
    · unfold ins at hx; simp at hx; subst hx; exact hb
  | x :: l, r, hv, hr => by
    obtain ⟨h1, h2, h3⟩ := valid_cons.1 hv
    unfold ins
    by_cases c1 : x.2 < r.1
    · rw [if_pos c1]
      obtain ⟨i1, i2, i3⟩ := ins_spec l r h3 hr
      refine ⟨valid_cons.2 ⟨h1, i3 x.2 c1 h2, i1⟩, fun m => ?_, fun b hb hl y hy => ?_⟩
      · rw [mem_cons, i2 m, mem_cons]
        constructor
        · rintro (h | h | h)
          · exact Or.inr (Or.inl h)
          · exact Or.inl h
          · exact Or.inr (Or.inr h)
        · rintro (h | h | h)
          · exact Or.inr (Or.inl h)
          · exact Or.inl h
          · exact Or.inr (Or.inr h)
      · rcases List.mem_cons.1 hy with rfl | hy
        · exact hl _ (by simp)
        · exact i3 b hb (fun z hz => hl z (by simp [hz])) y hy
    · rw [if_neg c1]
      by_cases c2 : x.1 ≤ r.2
      · rw [if_pos c2]
        obtain ⟨i1, i2, i3⟩ := ins_spec l (min r.1 x.1, max r.2 x.2) h3 (by simp only []; omega)
        refine ⟨i1, fun m => ?_, fun b hb hl y hy => i3 b (by have := hl x (by simp); simp only []; omega) (fun z hz => hl z (by simp [hz])) y hy⟩
        rw [i2 m, mem_cons]
        simp only []
        constructor
        · rintro (h | h)
          · by_cases q : r.1 ≤ m ∧ m < r.2
            · exact Or.inl q
            · exact Or.inr (Or.inl (by omega))
          · exact Or.inr (Or.inr h)
        · rintro (h | h | h)
          · exact Or.inl (by omega)
          · exact Or.inl (by omega)
          · exact Or.inr h
      · rw [if_neg c2]
        refine ⟨valid_cons.2 ⟨hr, fun y hy => ?_, hv⟩, fun m => by rw [mem_cons], fun b hb hl y hy => ?_⟩
        · rcases List.mem_cons.1 hy with rfl | hy
          · omega
          · have := h2 y hy; omega
        · rcases List.mem_cons.1 hy with rfl | hy
          · exact hb
          · exact hl y hy
def put (l : List R) (r : R) : List R := if r.2 ≤ r.1 then l else ins l r
theorem put_spec (l : List R) (r : R) (h : Valid l) : Valid (put l r) ∧ ∀ m, Mem m (put l r) ↔ (r.1 ≤ m ∧ m < r.2) ∨ Mem m l := by
  unfold put
  by_cases c : r.2 ≤ r.1
  · rw [if_pos c]; exact ⟨h, fun m => ⟨Or.inr, fun h => h.resolve_left (by omega)⟩⟩
  · rw [if_neg c]; exact ⟨(ins_spec l r h (by omega)).1, (ins_spec l r h (by omega)).2.1⟩
/-- The list of a set. -/
def ofV (l : List R) : List R := l.foldl put []
theorem ofV_snoc (l : List R) (r : R) : ofV (l ++ [r]) = put (ofV l) r := by simp [ofV]
theorem ofV_spec (l : List R) : Valid (ofV l) ∧ ∀ m, Mem m (ofV l) ↔ Mem m l := by
  obtain ⟨k, hk⟩ : ∃ k, k = l.reverse := ⟨_, rfl⟩
  have e : l = k.reverse := by rw [hk]; simp
  clear hk
  subst e
  induction k with
  | nil => exact ⟨Valid.nil, fun m => Iff.rfl⟩
  | cons r k ih =>
    rw [List.reverse_cons, ofV_snoc]
    obtain ⟨h1, h2⟩ := put_spec _ r ih.1
    refine ⟨h1, fun m => ?_⟩
    rw [h2 m, ih.2 m, mem_app, mem_cons]
    constructor
    · rintro (h | h)
      · exact Or.inr (Or.inl h)
      · exact Or.inl h
    · rintro (h | h | h)
      · exact Or.inr h
      · exact Or.inl h
      · exact absurd h mem_nil
theorem ofV_eq {l v : List R} (hv : Valid v) (h : ∀ m, Mem m v ↔ Mem m l) : v = ofV l := uniq hv (ofV_spec l).1 fun m => by rw [h m, (ofV_spec l).2 m]
theorem ofV_valid {l : List R} (h : Valid l) : ofV l = l := (ofV_eq h fun _ => Iff.rfl).symm
/-- One range more, behind those that begin before it: the program's way. -/
def mstep (out : List R) (r : R) : List R := match out.getLast? with
  | some x => if r.1 ≤ x.2 then out.dropLast ++ [(x.1, max x.2 r.2)] else out ++ [r]
  | none => [r]
def mrg (l : List R) : List R := l.foldl mstep []
theorem mrg_snoc (l : List R) (r : R) : mrg (l ++ [r]) = mstep (mrg l) r := by simp [mrg]
theorem mstep_snoc (out : List R) (x r : R) : mstep (out ++ [x]) r = if r.1 ≤ x.2 then out ++ [(x.1, max x.2 r.2)] else out ++ [x, r] := by
  unfold mstep; simp
theorem valid_app {a b : List R} : Valid (a ++ b) ↔ Valid a ∧ Valid b ∧ ∀ x ∈ a, ∀ y ∈ b, x.2 < y.1 := by
  unfold Valid
  rw [List.pairwise_append]
  constructor
  · rintro ⟨h1, h2, h3, h4⟩
    exact ⟨⟨fun r hr => h1 r (by simp [hr]), h2⟩, ⟨fun r hr => h1 r (by simp [hr]), h3⟩, h4⟩
  · rintro ⟨⟨h1, h2⟩, ⟨h3, h4⟩, h5⟩
    refine ⟨fun r hr => ?_, h2, h4, h5⟩
    rcases List.mem_append.1 hr with hr | hr
    · exact h1 r hr
    · exact h3 r hr
theorem mrg_spec (l : List R) (hn : ∀ r ∈ l, r.1 < r.2) (hs : l.Pairwise (fun a b => a.1 ≤ b.1)) : Valid (mrg l) ∧ (∀ m, Mem m (mrg l) ↔ Mem m l) ∧ ∀ b : Int, (∀ r ∈ l, r.1 ≤ b) → ∀ x ∈ mrg l, x.1 ≤ b := by
  obtain ⟨k, hk⟩ : ∃ k, k = l.reverse := ⟨_, rfl⟩
  have e : l = k.reverse := by rw [hk]; simp
  clear hk
  subst e
  induction k with
  | nil => exact ⟨Valid.nil, fun m => Iff.rfl, fun b _ x hx => by simp [mrg] at hx⟩
  | cons r k ih =>
    rw [List.reverse_cons] at hn hs ⊢
    rw [List.pairwise_append] at hs
    obtain ⟨hs1, _, hs3⟩ := hs
    obtain ⟨i1, i2, i3⟩ := ih (fun x hx => hn x (by simp at hx; simp [hx])) hs1
    have hr : r.1 < r.2 := hn r (by simp)
    have hlast : ∀ x ∈ mrg k.reverse, x.1 ≤ r.1 := i3 r.1 (fun x hx => hs3 x hx r (by simp))
    rw [mrg_snoc]
    rcases List.eq_nil_or_concat (mrg k.reverse) with e0 | ⟨out, x, e0⟩
    · rw [e0] at i2 ⊢
      refine ⟨valid_cons.2 ⟨hr, by simp, Valid.nil⟩, fun m => ?_, fun b hb x hx => ?_⟩
      · show Mem m [r] ↔ _
        rw [mem_app, ← i2 m]
        constructor
        · intro h; exact Or.inr h
        · rintro (h | h)
          · exact absurd h mem_nil
          · exact h
      · have hx : x ∈ [r] := hx
        simp at hx; subst hx; exact hb _ (by simp)
    · rw [List.concat_eq_append] at e0
      rw [e0] at i1 i2 hlast ⊢
      rw [mstep_snoc]
      obtain ⟨v1, v2, v3⟩ := valid_app.1 i1
      obtain ⟨x1, _, _⟩ := valid_cons.1 v2
      have hx1 := hlast x (by simp)
      by_cases c : r.1 ≤ x.2
      · rw [if_pos c]
        refine ⟨valid_app.2 ⟨v1, valid_cons.2 ⟨by simp only []; omega, by simp, Valid.nil⟩, fun y hy z hz => ?_⟩, fun m => ?_, fun b hb y hy => ?_⟩
        · simp at hz; subst hz; exact v3 y hy x (by simp)
        · rw [mem_app, mem_app, ← i2 m, mem_app, mem_cons, mem_cons, mem_cons]
          simp only []
          constructor
          · rintro (h | h | h)
            · exact Or.inl (Or.inl h)
            · by_cases q : x.1 ≤ m ∧ m < x.2
              · exact Or.inl (Or.inr (Or.inl q))
              · exact Or.inr (Or.inl (by omega))
            · exact absurd h mem_nil
          · rintro ((h | h | h) | h | h)
            · exact Or.inl h
            · exact Or.inr (Or.inl (by omega))
            · exact absurd h mem_nil
            · exact Or.inr (Or.inl (by omega))
            · exact absurd h mem_nil
        · rcases List.mem_append.1 hy with hy | hy
          · exact Int.le_trans (hlast y (by simp [hy])) (hb r (by simp))
          · simp at hy; subst hy; simp only []; exact Int.le_trans hx1 (hb r (by simp))
      · rw [if_neg c]
        have hv : Valid (out ++ [x, r]) := by
          refine valid_app.2 ⟨v1, valid_cons.2 ⟨x1, by simp; omega, valid_cons.2 ⟨hr, by simp, Valid.nil⟩⟩, fun y hy z hz => ?_⟩
          simp at hz
          rcases hz with rfl | rfl
          · exact v3 y hy _ (by simp)
          · have := v3 y hy x (by simp); omega
        refine ⟨hv, fun m => ?_, fun b hb y hy => ?_⟩
        · rw [mem_app, mem_app, ← i2 m, mem_app, mem_cons, mem_cons]
          constructor
          · rintro (h | h | h)
            · exact Or.inl (Or.inl h)
            · exact Or.inl (Or.inr (mem_cons.2 (Or.inl h)))
            · exact Or.inr h
          · rintro ((h | h) | h)
            · exact Or.inl h
            · rcases mem_cons.1 h with h | h
              · exact Or.inr (Or.inl h)
              · exact absurd h mem_nil
            · exact Or.inr (Or.inr h)
        · rcases List.mem_append.1 hy with hy | hy
          · exact Int.le_trans (hlast y (by simp [hy])) (hb r (by simp))
          · simp at hy
            rcases hy with rfl | rfl
            · exact Int.le_trans hx1 (hb r (by simp))
            · exact hb _ (by simp)
/-- Sorted in whatever way, the ranges merge into the list of their set. -/
theorem mrg_ofV (l d : List R) (hp : d.Perm (l.filter fun r => decide (r.1 < r.2))) (hs : d.Pairwise (fun a b => a.1 ≤ b.1)) : mrg d = ofV l := by
  have hn : ∀ r ∈ d, r.1 < r.2 := fun r hr => by have := hp.mem_iff.1 hr; simp at this; exact this.2
  obtain ⟨h1, h2, _⟩ := mrg_spec d hn hs
  refine ofV_eq h1 fun m => ?_
  rw [h2 m]
  unfold Mem
  constructor
  · rintro ⟨r, hr, h⟩
    have := hp.mem_iff.1 hr; simp at this
    exact ⟨r, this.1, h⟩
  · rintro ⟨r, hr, h⟩
    exact ⟨r, hp.mem_iff.2 (by simp [hr]; omega), h⟩
/-- The two pieces that are left of a range. -/
def cut (r x : R) : List R := [(x.1, min x.2 r.1), (max x.1 r.2, x.2)]
def remV (l : List R) (r : R) : List R := if r.2 ≤ r.1 then ofV l else ofV ((ofV l).flatMap (cut r))
end Rng
