/- An evaluator of the model's code, first part: trees, values, and what they stand for. No program in sight. -/
import Derived.Calls
import Derived.Below
import Derived.Laws.Rows
import Derived.Laws.Tables
import Derived.Laws.Cells
import Derived.Laws.IdiomCopy
import Derived.Laws.Append
set_option linter.unusedVariables false
set_option linter.unusedSimpArgs false
namespace Go.Ev
/-- A tree of places 0, 1, 2 .. -/
inductive T (α : Type) where
  | nil : T α
  | node (v : α) (l r : T α) : T α
variable {α : Type}
noncomputable def T.getS (d : α) (t : T α) : Nat → α :=
  T.rec (motive := fun _ => Nat → α) (fun _ => d) (fun v _ _ gl gr n => Bool.rec (Bool.rec (gr (Nat.sub (Nat.div n 2) 1)) (gl (Nat.div n 2)) (Nat.beq (Nat.mod n 2) 1)) v (Nat.beq n 0)) t
noncomputable def T.setS (t : T α) : Nat → α → T α :=
  T.rec (motive := fun _ => Nat → α → T α) (fun _ _ => .nil) (fun v l r sl sr n x => Bool.rec (Bool.rec (.node v l (sr (Nat.sub (Nat.div n 2) 1) x)) (.node v (sl (Nat.div n 2) x) r) (Nat.beq (Nat.mod n 2) 1)) (.node x l r) (Nat.beq n 0)) t
noncomputable def T.hasS (t : T α) : Nat → Bool :=
  T.rec (motive := fun _ => Nat → Bool) (fun _ => false) (fun _ _ _ gl gr n => Bool.rec (Bool.rec (gr (Nat.sub (Nat.div n 2) 1)) (gl (Nat.div n 2)) (Nat.beq (Nat.mod n 2) 1)) true (Nat.beq n 0)) t
/-- A way that is found once and kept. -/
inductive Bx (α : Type) where
  | no
  | mk (a : α)
noncomputable def half {β : Type} (ih : Nat → β) (n : Nat) : β := Nat.rec (motive := fun _ => β) (ih 0) (fun p _ => ih (Nat.succ p)) n
theorem half_eq {β : Type} (ih : Nat → β) (n : Nat) : half ih n = ih n := by cases n <;> rfl
noncomputable def pathG (d : α) : Nat → Nat → Bx (T α → α) :=
  Nat.rec (motive := fun _ => Nat → Bx (T α → α)) (fun _ => .no) (fun _ ih n =>
    Bool.rec (motive := fun _ => Bx (T α → α)) (Bool.rec (motive := fun _ => Bx (T α → α))
      (Bx.rec (motive := fun _ => Bx (T α → α)) .no (fun g => .mk (fun t => T.rec (motive := fun _ => α) d (fun _ _ r _ _ => g r) t)) (half ih (Nat.sub (Nat.div n 2) 1)))
      (Bx.rec (motive := fun _ => Bx (T α → α)) .no (fun g => .mk (fun t => T.rec (motive := fun _ => α) d (fun _ l _ _ _ => g l) t)) (half ih (Nat.div n 2))) (Nat.beq (Nat.mod n 2) 1))
      (.mk (fun t => T.rec (motive := fun _ => α) d (fun v _ _ _ _ => v) t)) (Nat.beq n 0))
noncomputable def pathH : Nat → Nat → Bx (T α → Bool) :=
  Nat.rec (motive := fun _ => Nat → Bx (T α → Bool)) (fun _ => .no) (fun _ ih n =>
    Bool.rec (motive := fun _ => Bx (T α → Bool)) (Bool.rec (motive := fun _ => Bx (T α → Bool))
      (Bx.rec (motive := fun _ => Bx (T α → Bool)) .no (fun g => .mk (fun t => T.rec (motive := fun _ => Bool) false (fun _ _ r _ _ => g r) t)) (half ih (Nat.sub (Nat.div n 2) 1)))
      (Bx.rec (motive := fun _ => Bx (T α → Bool)) .no (fun g => .mk (fun t => T.rec (motive := fun _ => Bool) false (fun _ l _ _ _ => g l) t)) (half ih (Nat.div n 2))) (Nat.beq (Nat.mod n 2) 1))
      (.mk (fun t => T.rec (motive := fun _ => Bool) false (fun _ _ _ _ _ => true) t)) (Nat.beq n 0))
noncomputable def pathS : Nat → Nat → Bx (T α → α → T α) :=
  Nat.rec (motive := fun _ => Nat → Bx (T α → α → T α)) (fun _ => .no) (fun _ ih n =>
    Bool.rec (motive := fun _ => Bx (T α → α → T α)) (Bool.rec (motive := fun _ => Bx (T α → α → T α))
      (Bx.rec (motive := fun _ => Bx (T α → α → T α)) .no (fun g => .mk (fun t x => T.rec (motive := fun _ => T α) .nil (fun v l r _ _ => .node v l (g r x)) t)) (half ih (Nat.sub (Nat.div n 2) 1)))
      (Bx.rec (motive := fun _ => Bx (T α → α → T α)) .no (fun g => .mk (fun t x => T.rec (motive := fun _ => T α) .nil (fun v l r _ _ => .node v (g l x) r) t)) (half ih (Nat.div n 2))) (Nat.beq (Nat.mod n 2) 1))
      (.mk (fun t x => T.rec (motive := fun _ => T α) .nil (fun _ l r _ _ => .node x l r) t)) (Nat.beq n 0))
noncomputable def T.getN (d : α) (t : T α) (n : Nat) : α := Bx.rec (motive := fun _ => α) (T.getS d t n) (fun g => g t) (pathG d 64 n)
noncomputable def T.setN (t : T α) (x : α) (n : Nat) : T α := Bx.rec (motive := fun _ => T α) (T.setS t n x) (fun g => g t x) (pathS 64 n)
noncomputable def T.hasN (t : T α) (n : Nat) : Bool := Bx.rec (motive := fun _ => Bool) (T.hasS t n) (fun g => g t) (pathH 64 n)
noncomputable def T.get (d : α) (t : T α) (n : Nat) : α := Nat.rec (motive := fun _ => α) (T.getN d t 0) (fun p _ => T.getN d t (Nat.succ p)) n
noncomputable def T.set (t : T α) (n : Nat) (x : α) : T α := Nat.rec (motive := fun _ => T α) (T.setN t x 0) (fun p _ => T.setN t x (Nat.succ p)) n
noncomputable def T.has (t : T α) (n : Nat) : Bool := Nat.rec (motive := fun _ => Bool) (T.hasN t 0) (fun p _ => T.hasN t (Nat.succ p)) n
noncomputable def T.mk (d : α) (f : Nat) : Nat → T α := Nat.rec (motive := fun _ => Nat → T α) (fun _ => .nil) (fun _ ih n => Bool.rec (.node d (ih (Nat.div n 2)) (ih (Nat.div (Nat.sub n 1) 2))) .nil (Nat.beq n 0)) f
theorem T.getS_node (d v : α) (l r : T α) (n : Nat) : (T.node v l r).getS d n = if n = 0 then v else if n % 2 = 1 then l.getS d (n / 2) else r.getS d (n / 2 - 1) := by
  show (Bool.rec (Bool.rec (r.getS d (n / 2 - 1)) (l.getS d (n / 2)) (Nat.beq (n % 2) 1)) v (Nat.beq n 0) : α) = _
  by_cases h : n = 0
  · subst h; rfl
  · have : Nat.beq n 0 = false := by cases n <;> simp_all [Nat.beq]
    rw [this, if_neg h]
    by_cases h1 : n % 2 = 1
    · rw [h1]; rfl
    · have h0 : n % 2 = 0 := by omega
      rw [h0]; rfl
theorem T.setS_node (v x : α) (l r : T α) (n : Nat) : (T.node v l r).setS n x = if n = 0 then .node x l r else if n % 2 = 1 then .node v (l.setS (n / 2) x) r else .node v l (r.setS (n / 2 - 1) x) := by
  show (Bool.rec (Bool.rec (.node v l (r.setS (n / 2 - 1) x)) (.node v (l.setS (n / 2) x) r) (Nat.beq (n % 2) 1)) (.node x l r) (Nat.beq n 0) : T α) = _
  by_cases h : n = 0
  · subst h; rfl
  · have : Nat.beq n 0 = false := by cases n <;> simp_all [Nat.beq]
    rw [this, if_neg h]
    by_cases h1 : n % 2 = 1
    · rw [h1]; rfl
    · have h0 : n % 2 = 0 := by omega
      rw [h0]; rfl
theorem T.hasS_node (v : α) (l r : T α) (n : Nat) : (T.node v l r).hasS n = if n = 0 then true else if n % 2 = 1 then l.hasS (n / 2) else r.hasS (n / 2 - 1) := by
  show (Bool.rec (Bool.rec (r.hasS (n / 2 - 1)) (l.hasS (n / 2)) (Nat.beq (n % 2) 1)) true (Nat.beq n 0) : Bool) = _
  by_cases h : n = 0
  · subst h; rfl
  · have : Nat.beq n 0 = false := by cases n <;> simp_all [Nat.beq]
    rw [this, if_neg h]
    by_cases h1 : n % 2 = 1
    · rw [h1]; rfl
    · have h0 : n % 2 = 0 := by omega
      rw [h0]; rfl
theorem bool_ne_beq {n : Nat} (h0 : n ≠ 0) : Nat.beq n 0 = false := by cases n <;> simp_all [Nat.beq]
theorem getS_nil (d : α) (n : Nat) : (T.nil : T α).getS d n = d := rfl
theorem setS_nil (n : Nat) (x : α) : (T.nil : T α).setS n x = .nil := rfl
theorem hasS_nil (n : Nat) : (T.nil : T α).hasS n = false := rfl
theorem pathG_ok (d : α) : ∀ (f n : Nat) (g : T α → α), pathG d f n = .mk g → ∀ t, g t = T.getS d t n
  | 0, n, g, hk, t => by cases hk
  | f + 1, n, g, hk, t => by
    have e1 : pathG d (f + 1) n = (Bool.rec (motive := fun _ => Bx (T α → α)) (Bool.rec (motive := fun _ => Bx (T α → α))
      (Bx.rec (motive := fun _ => Bx (T α → α)) .no (fun g => .mk (fun t => T.rec (motive := fun _ => α) d (fun _ _ r _ _ => g r) t)) (half (pathG d f) (Nat.sub (Nat.div n 2) 1)))
      (Bx.rec (motive := fun _ => Bx (T α → α)) .no (fun g => .mk (fun t => T.rec (motive := fun _ => α) d (fun _ l _ _ _ => g l) t)) (half (pathG d f) (Nat.div n 2))) (Nat.beq (Nat.mod n 2) 1))
      (.mk (fun t => T.rec (motive := fun _ => α) d (fun v _ _ _ _ => v) t)) (Nat.beq n 0)) := rfl
    rw [e1] at hk
    by_cases h0 : n = 0
    · subst h0
      have : g = fun t => T.rec (motive := fun _ => α) d (fun v _ _ _ _ => v) t := by injection hk with hk; exact hk.symm
      subst this
      cases t with
      | nil => rfl
      | node v l r => rw [T.getS_node, if_pos rfl]
    · rw [bool_ne_beq h0] at hk
      dsimp only at hk
      cases h1 : Nat.beq (Nat.mod n 2) 1 with
      | true =>
        rw [h1] at hk
        dsimp only at hk
        rw [half_eq] at hk
        cases hp : pathG d f (Nat.div n 2) with
        | no => rw [hp] at hk; cases hk
        | mk g' =>
          rw [hp] at hk
          have : g = fun t => T.rec (motive := fun _ => α) d (fun _ l _ _ _ => g' l) t := by injection hk with hk; exact hk.symm
          subst this
          cases t with
          | nil => rfl
          | node v l r =>
            rw [T.getS_node, if_neg h0, if_pos (show n % 2 = 1 from Nat.eq_of_beq_eq_true h1)]
            exact pathG_ok d f _ g' hp l
      | false =>
        rw [h1] at hk
        dsimp only at hk
        rw [half_eq] at hk
        cases hp : pathG d f (Nat.sub (Nat.div n 2) 1) with
        | no => rw [hp] at hk; cases hk
        | mk g' =>
          rw [hp] at hk
          have : g = fun t => T.rec (motive := fun _ => α) d (fun _ _ r _ _ => g' r) t := by injection hk with hk; exact hk.symm
          subst this
          cases t with
          | nil => rfl
          | node v l r =>
            rw [T.getS_node, if_neg h0, if_neg (show ¬ n % 2 = 1 from Nat.ne_of_beq_eq_false h1)]
            exact pathG_ok d f _ g' hp r
theorem pathH_ok : ∀ (f n : Nat) (g : T α → Bool), pathH f n = .mk g → ∀ t, g t = T.hasS t n
  | 0, n, g, hk, t => by cases hk
  | f + 1, n, g, hk, t => by
    have e1 : pathH (α := α) (f + 1) n = (Bool.rec (motive := fun _ => Bx (T α → Bool)) (Bool.rec (motive := fun _ => Bx (T α → Bool))
      (Bx.rec (motive := fun _ => Bx (T α → Bool)) .no (fun g => .mk (fun t => T.rec (motive := fun _ => Bool) false (fun _ _ r _ _ => g r) t)) (half (pathH (α := α) f) (Nat.sub (Nat.div n 2) 1)))
      (Bx.rec (motive := fun _ => Bx (T α → Bool)) .no (fun g => .mk (fun t => T.rec (motive := fun _ => Bool) false (fun _ l _ _ _ => g l) t)) (half (pathH (α := α) f) (Nat.div n 2))) (Nat.beq (Nat.mod n 2) 1))
      (.mk (fun t => T.rec (motive := fun _ => Bool) false (fun _ _ _ _ _ => true) t)) (Nat.beq n 0)) := rfl
    rw [e1] at hk
    by_cases h0 : n = 0
    · subst h0
      have : g = fun t => T.rec (motive := fun _ => Bool) false (fun _ _ _ _ _ => true) t := by injection hk with hk; exact hk.symm
      subst this
      cases t with
      | nil => rfl
      | node v l r => rw [T.hasS_node, if_pos rfl]
    · rw [bool_ne_beq h0] at hk
      dsimp only at hk
      cases h1 : Nat.beq (Nat.mod n 2) 1 with
      | true =>
        rw [h1] at hk
        dsimp only at hk
        rw [half_eq] at hk
        cases hp : pathH (α := α) f (Nat.div n 2) with
        | no => rw [hp] at hk; cases hk
        | mk g' =>
          rw [hp] at hk
          have : g = fun t => T.rec (motive := fun _ => Bool) false (fun _ l _ _ _ => g' l) t := by injection hk with hk; exact hk.symm
          subst this
          cases t with
          | nil => rfl
          | node v l r =>
            rw [T.hasS_node, if_neg h0, if_pos (show n % 2 = 1 from Nat.eq_of_beq_eq_true h1)]
            exact pathH_ok f _ g' hp l
      | false =>
        rw [h1] at hk
        dsimp only at hk
        rw [half_eq] at hk
        cases hp : pathH (α := α) f (Nat.sub (Nat.div n 2) 1) with
        | no => rw [hp] at hk; cases hk
        | mk g' =>
          rw [hp] at hk
          have : g = fun t => T.rec (motive := fun _ => Bool) false (fun _ _ r _ _ => g' r) t := by injection hk with hk; exact hk.symm
          subst this
          cases t with
          | nil => rfl
          | node v l r =>
            rw [T.hasS_node, if_neg h0, if_neg (show ¬ n % 2 = 1 from Nat.ne_of_beq_eq_false h1)]
            exact pathH_ok f _ g' hp r
theorem pathS_ok : ∀ (f n : Nat) (g : T α → α → T α), pathS f n = .mk g → ∀ t x, g t x = T.setS t n x
  | 0, n, g, hk, t, x => by cases hk
  | f + 1, n, g, hk, t, x => by
    have e1 : pathS (α := α) (f + 1) n = (Bool.rec (motive := fun _ => Bx (T α → α → T α)) (Bool.rec (motive := fun _ => Bx (T α → α → T α))
      (Bx.rec (motive := fun _ => Bx (T α → α → T α)) .no (fun g => .mk (fun t x => T.rec (motive := fun _ => T α) .nil (fun v l r _ _ => .node v l (g r x)) t)) (half (pathS (α := α) f) (Nat.sub (Nat.div n 2) 1)))
      (Bx.rec (motive := fun _ => Bx (T α → α → T α)) .no (fun g => .mk (fun t x => T.rec (motive := fun _ => T α) .nil (fun v l r _ _ => .node v (g l x) r) t)) (half (pathS (α := α) f) (Nat.div n 2))) (Nat.beq (Nat.mod n 2) 1))
      (.mk (fun t x => T.rec (motive := fun _ => T α) .nil (fun _ l r _ _ => .node x l r) t)) (Nat.beq n 0)) := rfl
    rw [e1] at hk
    by_cases h0 : n = 0
    · subst h0
      have : g = fun t x => T.rec (motive := fun _ => T α) .nil (fun _ l r _ _ => .node x l r) t := by injection hk with hk; exact hk.symm
      subst this
      cases t with
      | nil => rfl
      | node v l r => rw [T.setS_node, if_pos rfl]
    · rw [bool_ne_beq h0] at hk
      dsimp only at hk
      cases h1 : Nat.beq (Nat.mod n 2) 1 with
      | true =>
        rw [h1] at hk
        dsimp only at hk
        rw [half_eq] at hk
        cases hp : pathS (α := α) f (Nat.div n 2) with
        | no => rw [hp] at hk; cases hk
        | mk g' =>
          rw [hp] at hk
          have : g = fun t x => T.rec (motive := fun _ => T α) .nil (fun v l r _ _ => .node v (g' l x) r) t := by injection hk with hk; exact hk.symm
          subst this
          cases t with
          | nil => rfl
          | node v l r =>
            rw [T.setS_node, if_neg h0, if_pos (show n % 2 = 1 from Nat.eq_of_beq_eq_true h1)]
            show T.node v (g' l x) r = _
            rw [pathS_ok f _ g' hp l x]; rfl
      | false =>
        rw [h1] at hk
        dsimp only at hk
        rw [half_eq] at hk
        cases hp : pathS (α := α) f (Nat.sub (Nat.div n 2) 1) with
        | no => rw [hp] at hk; cases hk
        | mk g' =>
          rw [hp] at hk
          have : g = fun t x => T.rec (motive := fun _ => T α) .nil (fun v l r _ _ => .node v l (g' r x)) t := by injection hk with hk; exact hk.symm
          subst this
          cases t with
          | nil => rfl
          | node v l r =>
            rw [T.setS_node, if_neg h0, if_neg (show ¬ n % 2 = 1 from Nat.ne_of_beq_eq_false h1)]
            show T.node v l (g' r x) = _
            rw [pathS_ok f _ g' hp r x]; rfl
theorem T.getN_eq (d : α) (t : T α) (n : Nat) : T.getN d t n = T.getS d t n := by
  unfold T.getN
  cases hp : pathG d 64 n with
  | no => rfl
  | mk g => exact pathG_ok d 64 n g hp t
theorem T.setN_eq (t : T α) (x : α) (n : Nat) : T.setN t x n = T.setS t n x := by
  unfold T.setN
  cases hp : pathS (α := α) 64 n with
  | no => rfl
  | mk g => exact pathS_ok 64 n g hp t x
theorem T.hasN_eq (t : T α) (n : Nat) : T.hasN t n = T.hasS t n := by
  unfold T.hasN
  cases hp : pathH (α := α) 64 n with
  | no => rfl
  | mk g => exact pathH_ok 64 n g hp t
theorem T.get_eq (d : α) (t : T α) (n : Nat) : T.get d t n = T.getS d t n := by
  cases n with
  | zero => exact T.getN_eq d t 0
  | succ p => exact T.getN_eq d t (p + 1)
theorem T.set_eq (t : T α) (n : Nat) (x : α) : T.set t n x = T.setS t n x := by
  cases n with
  | zero => exact T.setN_eq t x 0
  | succ p => exact T.setN_eq t x (p + 1)
theorem T.has_eq (t : T α) (n : Nat) : T.has t n = T.hasS t n := by
  cases n with
  | zero => exact T.hasN_eq t 0
  | succ p => exact T.hasN_eq t (p + 1)
theorem T.get_nil (d : α) (n : Nat) : (T.nil : T α).get d n = d := by rw [T.get_eq]; rfl
theorem T.set_nil (n : Nat) (x : α) : (T.nil : T α).set n x = .nil := by rw [T.set_eq]; rfl
theorem T.has_nil (n : Nat) : (T.nil : T α).has n = false := by rw [T.has_eq]; rfl
theorem T.get_node (d v : α) (l r : T α) (n : Nat) : (T.node v l r).get d n = if n = 0 then v else if n % 2 = 1 then l.get d (n / 2) else r.get d (n / 2 - 1) := by
  rw [T.get_eq, T.getS_node, T.get_eq, T.get_eq]
theorem T.set_node (v x : α) (l r : T α) (n : Nat) : (T.node v l r).set n x = if n = 0 then .node x l r else if n % 2 = 1 then .node v (l.set (n / 2) x) r else .node v l (r.set (n / 2 - 1) x) := by
  rw [T.set_eq, T.setS_node, T.set_eq, T.set_eq]
theorem T.has_node (v : α) (l r : T α) (n : Nat) : (T.node v l r).has n = if n = 0 then true else if n % 2 = 1 then l.has (n / 2) else r.has (n / 2 - 1) := by
  rw [T.has_eq, T.hasS_node, T.has_eq, T.has_eq]
theorem T.get_set (d : α) : ∀ (t : T α) (n m : Nat) (x : α), t.has n = true → (t.set n x).get d m = if m = n then x else t.get d m
  | .nil, n, m, x, h => by rw [T.has_nil] at h; cases h
  | .node v l r, n, m, x, h => by
    rw [T.has_node] at h
    rw [T.set_node]
    by_cases h0 : n = 0
    · subst h0
      rw [if_pos rfl, T.get_node, T.get_node]
      by_cases hm : m = 0 <;> simp [hm]
    · rw [if_neg h0] at h ⊢
      by_cases h1 : n % 2 = 1
      · rw [if_pos h1] at h ⊢
        rw [T.get_node, T.get_node]
        by_cases hm : m = 0
        · subst hm; rw [if_pos rfl, if_pos rfl, if_neg (fun e => h0 e.symm)]
        · rw [if_neg hm, if_neg hm]
          by_cases hm1 : m % 2 = 1
          · rw [if_pos hm1, if_pos hm1, T.get_set d l _ _ x h]
            have : (m / 2 = n / 2) = (m = n) := by apply propext; constructor <;> intro e <;> omega
            simp only [this]
          · rw [if_neg hm1, if_neg hm1, if_neg (show ¬ m = n by omega)]
      · rw [if_neg h1] at h ⊢
        rw [T.get_node, T.get_node]
        by_cases hm : m = 0
        · subst hm; rw [if_pos rfl, if_pos rfl, if_neg (fun e => h0 e.symm)]
        · rw [if_neg hm, if_neg hm]
          by_cases hm1 : m % 2 = 1
          · rw [if_pos hm1, if_pos hm1, if_neg (show ¬ m = n by omega)]
          · rw [if_neg hm1, if_neg hm1, T.get_set d r _ _ x h]
            have : (m / 2 - 1 = n / 2 - 1) = (m = n) := by apply propext; constructor <;> intro e <;> omega
            simp only [this]
theorem T.has_set : ∀ (t : T α) (n m : Nat) (x : α), (t.set n x).has m = t.has m
  | .nil, n, m, x => by rw [T.set_nil]
  | .node v l r, n, m, x => by
    rw [T.set_node]
    by_cases h0 : n = 0
    · rw [if_pos h0, T.has_node, T.has_node]
    · rw [if_neg h0]
      by_cases h1 : n % 2 = 1
      · rw [if_pos h1, T.has_node, T.has_node, T.has_set l]
      · rw [if_neg h1, T.has_node, T.has_node, T.has_set r]
/-- Off the tree nothing is set. -/
theorem T.set_off : ∀ (t : T α) (n : Nat) (x : α), t.has n = false → t.set n x = t
  | .nil, n, x, h => T.set_nil n x
  | .node v l r, n, x, h => by
    rw [T.has_node] at h
    rw [T.set_node]
    by_cases h0 : n = 0
    · rw [if_pos h0] at h; cases h
    · rw [if_neg h0] at h ⊢
      by_cases h1 : n % 2 = 1
      · rw [if_pos h1] at h ⊢; rw [T.set_off l _ x h]
      · rw [if_neg h1] at h ⊢; rw [T.set_off r _ x h]
theorem T.get_off (d : α) : ∀ (t : T α) (n : Nat), t.has n = false → t.get d n = d
  | .nil, n, h => T.get_nil d n
  | .node v l r, n, h => by
    rw [T.has_node] at h
    rw [T.get_node]
    by_cases h0 : n = 0
    · rw [if_pos h0] at h; cases h
    · rw [if_neg h0] at h ⊢
      by_cases h1 : n % 2 = 1
      · rw [if_pos h1] at h ⊢; exact T.get_off d l _ h
      · rw [if_neg h1] at h ⊢; exact T.get_off d r _ h
/-- The tree of the places below n. -/
theorem T.mk_zero (d : α) (n : Nat) : T.mk d 0 n = .nil := rfl
theorem T.mk_succ (d : α) (f n : Nat) : T.mk d (f + 1) n = if n = 0 then .nil else .node d (T.mk d f (n / 2)) (T.mk d f ((n - 1) / 2)) := by
  show (Bool.rec (.node d (T.mk d f (n / 2)) (T.mk d f ((n - 1) / 2))) .nil (Nat.beq n 0) : T α) = _
  by_cases h : n = 0
  · subst h; rfl
  · have : Nat.beq n 0 = false := by cases n <;> simp_all [Nat.beq]
    rw [this, if_neg h]
theorem T.get_mk (d : α) : ∀ (f n m : Nat), (T.mk d f n).get d m = d
  | 0, n, m => T.get_nil d m
  | f + 1, n, m => by
    rw [T.mk_succ]
    split
    · exact T.get_nil d m
    · rw [T.get_node]; split; rfl; split <;> exact T.get_mk d f _ _
theorem T.has_mk (d : α) : ∀ (f n m : Nat), n < 2 ^ f → ((T.mk d f n).has m = true ↔ m < n)
  | 0, n, m, h => by simp at h; subst h; simp [T.mk_zero, T.has_nil]
  | f + 1, n, m, h => by
    rw [T.mk_succ]
    split
    · rename_i h0; subst h0; simp [T.has_nil]
    · rw [T.has_node]
      rw [Nat.pow_succ] at h
      by_cases h0 : m = 0
      · rw [if_pos h0]; simp; omega
      · rw [if_neg h0]
        by_cases h1 : m % 2 = 1
        · rw [if_pos h1, T.has_mk d f _ _ (by omega)]; omega
        · rw [if_neg h1, T.has_mk d f _ _ (by omega)]; omega
/-- A tree that holds a list from a place on. -/
noncomputable def T.puts (l : List α) : Nat → T α → T α := List.rec (motive := fun _ => Nat → T α → T α) (fun _ t => t) (fun x _ ih n t => ih (Nat.succ n) (t.set n x)) l
theorem T.has_puts : ∀ (l : List α) (n m : Nat) (t : T α), (T.puts l n t).has m = t.has m
  | [], n, m, t => rfl
  | x :: l, n, m, t => by show (T.puts l (n + 1) (t.set n x)).has m = _; rw [T.has_puts l, T.has_set]
theorem T.get_puts (d : α) : ∀ (l : List α) (n m : Nat) (t : T α), (∀ i, i < l.length → t.has (n + i) = true) → (T.puts l n t).get d m = if n ≤ m ∧ m < n + l.length then l.getD (m - n) d else t.get d m
  | [], n, m, t, h => by show t.get d m = _; rw [if_neg (by simp only [List.length_nil]; omega)]
  | x :: l, n, m, t, h => by
    show (T.puts l (n + 1) (t.set n x)).get d m = _
    rw [T.get_puts d l (n + 1) m (t.set n x) (fun i hi => by rw [T.has_set]; have := h (i + 1) (by simpa using hi); rwa [Nat.add_assoc, Nat.add_comm 1 i]), T.get_set d t n m x (by simpa using h 0 (by simp))]
    simp only [List.length_cons]
    by_cases h1 : m = n
    · subst h1; rw [if_neg (by omega), if_pos rfl, if_pos (by omega)]; simp
    · rw [if_neg h1]
      by_cases h2 : n + 1 ≤ m ∧ m < n + 1 + l.length
      · rw [if_pos h2, if_pos (by omega)]
        have : m - n = (m - (n + 1)) + 1 := by omega
        rw [this]; simp
      · rw [if_neg h2, if_neg (by omega)]
/-- A number that is not known, and what is reckoned of such. -/
inductive SX where
  | sym (i : Nat)
  | lit (n : Int)
  | bin (op : BinOp) (k : IntKind) (a b : SX)
  | shl (k : IntKind) (a : SX) (n : Nat)
  | shr (a : SX) (n : Nat)
  | cnv (k : IntKind) (a : SX)
  | lin (c : Int) (l : List Nat)
def opV (op : BinOp) (k : IntKind) (a b : Int) : Int :=
  match op with
  | .add => k.wrap (a + b)
  | .sub => k.wrap (a - b)
  | .mul => k.wrap (a * b)
  | .and => k.wrap (((BitVec.ofInt k.bits a) &&& (BitVec.ofInt k.bits b)).toNat)
  | .or => k.wrap (((BitVec.ofInt k.bits a) ||| (BitVec.ofInt k.bits b)).toNat)
  | .xor => k.wrap (((BitVec.ofInt k.bits a) ^^^ (BitVec.ofInt k.bits b)).toNat)
  | _ => 0
/-- A sum of numbers. -/
def linD (ρ : Nat → Int) : List Nat → Int
  | [] => 0
  | j :: l => ρ j + linD ρ l
def SX.den (ρ : Nat → Int) : SX → Int
  | .sym i => ρ i
  | .lit n => n
  | .bin op k a b => opV op k (SX.den ρ a) (SX.den ρ b)
  | .shl k a n => k.wrap (SX.den ρ a * 2 ^ n)
  | .shr a n => (SX.den ρ a).fdiv (2 ^ n)
  | .cnv k a => k.wrap (SX.den ρ a)
  | .lin c l => c + linD ρ l
/-- A value: blocks bear numbers of the evaluator's own. -/
inductive V where
  | int (k : IntKind) (n : Int)
  | bool (b : Bool)
  | str (s : ByteArray)
  | nilp
  | ptr (b o : Nat)
  | nils
  | sl (b o l c : Nat)
  | slu (b o l z : Nat)
  | nilm
  | map (b : Nat)
  | nilf
  | fn (f : Nat) (caps : List V)
  | nili
  | ifc (t : Nat) (v : V)
  | agg (l : List V)
  | tup (l : List V)
  | yld (b : Nat)
  | mfn (m : String) (v : V)
  | bfn (f : Nat) (v : V)
  | iv (k : IntKind) (lo hi : Int)
  | opq
  | usl (lo hi : Nat)
  | sx (k : IntKind) (x : SX)
  | ss (l : List SX)
  | xsl (j o l : Nat)
  | xp (j o : Nat)
  | xsu (j hi : Nat)
/-- Where a block lies: the model's block, the place of its first cell there, and how many cells that block has. -/
structure Loc where
  n : Nat
  sh : Nat
  sz : Nat
/-- What was there before the run: unknown numbers, the memory below a bound, slices of bytes in it. -/
structure Base where
  ρ : Nat → Int
  prot : Nat → Prop
  w0 : Nat → Option Obj
  x : Nat → Option (Option Addr × Nat × Nat)
  hx : ∀ j ad m c, x j = some (ad, m, c) → ∀ i, i < m → ∃ n o cs el fr, ad = some ⟨n, o, none⟩ ∧ prot n ∧ w0 n = some (.cells cs el fr) ∧ cs[o + i]? = some (.int .u8 (ρ (1000 * j + i))) ∧ IntKind.wrap .u8 (ρ (1000 * j + i)) = ρ (1000 * j + i)
  xm : ∀ j a m c, x j = some (a, m, c) → m ≤ 1000 ∧ j < 900
  sm : ∀ j, 1000000 ≤ j → 0 ≤ ρ j ∧ ρ j ≤ ((j % 1000 : Nat) : Int)
def noBase (w : World) : Base := ⟨fun _ => 0, fun n => n < w.heap.size, fun n => w.heap[n]?, fun _ => none, (fun _ _ _ _ h => by cases h), (fun _ _ _ _ h => by cases h), fun _ _ => ⟨Int.le_refl _, Int.natCast_nonneg _⟩⟩
structure Env where
  f : Nat → Option Loc
  base : Base
def noEnv : Env := ⟨fun _ => none, ⟨fun _ => 0, fun _ => False, fun _ => none, fun _ => none, (fun _ _ _ _ h => by cases h), (fun _ _ _ _ h => by cases h), fun _ _ => ⟨Int.le_refl _, Int.natCast_nonneg _⟩⟩⟩
instance : CoeFun Env (fun _ => Nat → Option Loc) := ⟨Env.f⟩
structure Env.le (e e' : Env) : Prop where
  of : ∀ b x, e b = some x → e' b = some x
  base : e'.base = e.base
theorem Env.le.refl (e : Env) : e.le e := ⟨fun _ _ h => h, rfl⟩
theorem Env.le.trans {e e' e'' : Env} (h : e.le e') (h' : e'.le e'') : e.le e'' := ⟨fun b x hx => h'.of b x (h.of b x hx), h'.base.trans h.base⟩
mutual
inductive VR (e : Env) : V → Value → Prop where
  | int (k n) : VR e (.int k n) (.int k n)
  | bool (b) : VR e (.bool b) (.bool b)
  | str (s) : VR e (.str s) (.string s)
  | nilp : VR e .nilp (.pointer none)
  | ptr {b o n sh sz} (h : e b = some ⟨n, sh, sz⟩) : VR e (.ptr b o) (.pointer (some ⟨n, sh + o, none⟩))
  | nils : VR e .nils (.slice none 0 0)
  | sl {b o l c n sh sz} (h : e b = some ⟨n, sh, sz⟩) (hl : l ≤ c) : VR e (.sl b o l c) (.slice (some ⟨n, sh + o, none⟩) l c)
  | sl0 {b o x n sh sz} (h : e b = some ⟨n, sh, sz⟩) : VR e (.sl b o 0 0) (.slice (some ⟨n, x, none⟩) 0 0)
  | slu {b o l z c n sh sz} (h : e b = some ⟨n, sh, sz⟩) (hl : l ≤ c) (hc : sh + o + c * z = sz) : VR e (.slu b o l z) (.slice (some ⟨n, sh + o, none⟩) l c)
  | slu0 {b o z x n sh sz} (h : e b = some ⟨n, sh, sz⟩) (hx : sz ≤ sh + o) : VR e (.slu b o 0 z) (.slice (some ⟨n, x, none⟩) 0 0)
  | nilm : VR e .nilm (.map none)
  | map {b n sh sz} (h : e b = some ⟨n, sh, sz⟩) : VR e (.map b) (.map (some n))
  | nilf : VR e .nilf .nilFunc
  | fn {f l xs} (h : VRs e l xs) : VR e (.fn f l) (.func (.func f) #[] ⟨xs⟩)
  | nili : VR e .nili .nilIface
  | ifc {t v x} (h : VR e v x) : VR e (.ifc t v) (.iface t x)
  | agg {l xs} (h : VRs e l xs) : VR e (.agg l) (.agg ⟨xs⟩)
  | tup {l xs} (h : VRs e l xs) : VR e (.tup l) (.tuple ⟨xs⟩)
  | yld {b n sh sz} (h : e b = some ⟨n, sh, sz⟩) : VR e (.yld b) (.func (.yield n) #[] #[])
  | mfn {m v x} (h : VR e v x) : VR e (.mfn m v) (.func (.method m) ⟨[x]⟩ #[])
  | bfn {f v x} (h : VR e v x) : VR e (.bfn f v) (.func (.func f) ⟨[x]⟩ #[])
  | iv {k n lo hi} (h1 : lo ≤ n) (h2 : n ≤ hi) : VR e (.iv k lo hi) (.int k n)
  | opq {x} (h : x.oneCell' = true) (hb : ∀ b, x ≠ .bool b) : VR e .opq x
  | usl {b l c lo hi} (h1 : lo ≤ l) (h2 : l ≤ hi) : VR e (.usl lo hi) (.slice b l c)
  | sx {k x n} (h : n = x.den e.base.ρ) (hw : k.wrap n = n) : VR e (.sx k x) (.int k n)
  | ss {l b} (h : b.toList.map (fun c => (c.toNat : Int)) = l.map (SX.den e.base.ρ)) : VR e (.ss l) (.string b)
  | xsl {j o l n off m c c'} (h : e.base.x j = some (some ⟨n, off, none⟩, m, c)) (hl : o + l ≤ m) (hc : l ≤ c') : VR e (.xsl j o l) (.slice (some ⟨n, off + o, none⟩) l c')
  | xp {j o n off m c} (h : e.base.x j = some (some ⟨n, off, none⟩, m, c)) (hl : o < m) : VR e (.xp j o) (.pointer (some ⟨n, off + o, none⟩))
  | xsu {j hi a a' m c c'} (h : e.base.x j = some (a, m, c)) (hl : m ≤ hi) (ha : 0 < m → a' = a) : VR e (.xsu j hi) (.slice a' m c')
inductive VRs (e : Env) : List V → List Value → Prop where
  | nil : VRs e [] []
  | cons {v x l xs} (h : VR e v x) (t : VRs e l xs) : VRs e (v :: l) (x :: xs)
end
mutual
theorem VR.mono {e e' : Env} (hle : e.le e') : ∀ {v x}, VR e v x → VR e' v x
  | _, _, .int k n => .int k n
  | _, _, .bool b => .bool b
  | _, _, .str s => .str s
  | _, _, .nilp => .nilp
  | _, _, .ptr h => .ptr (hle.of _ _ h)
  | _, _, .nils => .nils
  | _, _, .sl h hl => .sl (hle.of _ _ h) hl
  | _, _, .slu h hl hc => .slu (hle.of _ _ h) hl hc
  | _, _, .slu0 h hx => .slu0 (hle.of _ _ h) hx
  | _, _, .sl0 h => .sl0 (hle.of _ _ h)
  | _, _, .nilm => .nilm
  | _, _, .map h => .map (hle.of _ _ h)
  | _, _, .nilf => .nilf
  | _, _, .fn h => .fn (VRs.mono hle h)
  | _, _, .nili => .nili
  | _, _, .ifc h => .ifc (VR.mono hle h)
  | _, _, .agg h => .agg (VRs.mono hle h)
  | _, _, .tup h => .tup (VRs.mono hle h)
  | _, _, .yld h => .yld (hle.of _ _ h)
  | _, _, .mfn h => .mfn (VR.mono hle h)
  | _, _, .bfn h => .bfn (VR.mono hle h)
  | _, _, .iv h1 h2 => .iv h1 h2
  | _, _, .opq h hb => .opq h hb
  | _, _, .usl h1 h2 => .usl h1 h2
  | _, _, .sx h hw => .sx (by rw [hle.base]; exact h) hw
  | _, _, .ss h => .ss (by rw [hle.base]; exact h)
  | _, _, .xsl h hl hc => .xsl (by rw [hle.base]; exact h) hl hc
  | _, _, .xp h hl => .xp (by rw [hle.base]; exact h) hl
  | _, _, .xsu h hl ha => .xsu (by rw [hle.base]; exact h) hl ha
theorem VRs.mono {e e' : Env} (hle : e.le e') : ∀ {l xs}, VRs e l xs → VRs e' l xs
  | _, _, .nil => .nil
  | _, _, .cons h t => .cons (VR.mono hle h) (VRs.mono hle t)
end
variable {e : Env}
theorem VRs.length : ∀ {l xs}, VRs e l xs → l.length = xs.length
  | _, _, .nil => rfl
  | _, _, .cons _ t => by simp [VRs.length t]
theorem VRs.append : ∀ {l l' xs xs'}, VRs e l xs → VRs e l' xs' → VRs e (l ++ l') (xs ++ xs')
  | _, _, _, _, .nil, h => h
  | _, _, _, _, .cons h t, h' => .cons h (VRs.append t h')
theorem VRs.get : ∀ {l xs}, VRs e l xs → ∀ (d : V) (i : Nat), i < l.length → ∃ x, xs[i]? = some x ∧ VR e (l.getD i d) x
  | _, _, .nil, _, i, h => by simp at h
  | _, _, .cons (x := x) h _, _, 0, _ => ⟨x, rfl, h⟩
  | _, _, .cons _ t, d, i + 1, h => by simpa using VRs.get t d i (by simpa using h)
theorem VRs.ofFn {l : List V} {xs : List Value} (hl : l.length = xs.length) (h : ∀ i, i < l.length → ∃ v x, l[i]? = some v ∧ xs[i]? = some x ∧ VR e v x) : VRs e l xs := by
  induction l generalizing xs with
  | nil => cases xs with
    | nil => exact .nil
    | cons _ _ => simp at hl
  | cons v l ih => cases xs with
    | nil => simp at hl
    | cons x xs =>
      obtain ⟨v', x', h1, h2, h3⟩ := h 0 (by simp)
      simp at h1 h2
      subst h1 h2
      exact .cons h3 (ih (by simpa using hl) (fun i hi => by simpa using h (i + 1) (by simpa using hi)))
theorem VRs.drop : ∀ {l xs}, VRs e l xs → ∀ n, VRs e (l.drop n) (xs.drop n)
  | _, _, .nil, n => by simp; exact .nil
  | _, _, .cons h t, 0 => .cons h t
  | _, _, .cons _ t, n + 1 => VRs.drop t n
theorem VRs.take : ∀ {l xs}, VRs e l xs → ∀ n, VRs e (l.take n) (xs.take n)
  | _, _, .nil, n => by simp; exact .nil
  | _, _, .cons h t, 0 => .nil
  | _, _, .cons h t, n + 1 => .cons h (VRs.take t n)
/-- The value of one cell. -/
noncomputable def V.one : V → Bool :=
  V.rec (motive_1 := fun _ => Bool) (motive_2 := fun _ => Unit) (fun _ _  => true) (fun _  => true) (fun _  => true) (true) (fun _ _  => true) (true) (fun _ _ _ _  => true) (fun _ _ _ _  => true) (true) (fun _  => true) (true) (fun _ _ _  => true) (true) (fun _ _ _  => true) (fun _ _ => false) (fun _ _ => false) (fun _  => true) (fun _ _ _  => true) (fun _ _ _  => true) (fun _ _ _  => true) (true) (fun _ _  => true) (fun _ _ => true) (fun _ => true) (fun _ _ _ => true) (fun _ _ => true) (fun _ _ => true) () (fun _ _ _ _ => ())
theorem VR.one {v : V} {x : Value} (h : VR e v x) (hv : v.one = true) : x.oneCell' = true := by cases h <;> first | rfl | assumption | (change false = true at hv; cases hv)
/-- The cells of a value. -/
noncomputable def V.cells : V → List V :=
  V.rec (motive_1 := fun _ => List V) (motive_2 := fun _ => Unit) (fun x0 x1 => [.int x0 x1]) (fun x0 => [.bool x0]) (fun x0 => [.str x0]) ([.nilp]) (fun x0 x1 => [.ptr x0 x1]) ([.nils]) (fun x0 x1 x2 x3 => [.sl x0 x1 x2 x3]) (fun x0 x1 x2 x3 => [.slu x0 x1 x2 x3]) ([.nilm]) (fun x0 => [.map x0]) ([.nilf]) (fun x0 x1 _ => [.fn x0 x1]) ([.nili]) (fun x0 x1 _ => [.ifc x0 x1]) (fun l _ => l) (fun x0 _ => [.tup x0]) (fun x0 => [.yld x0]) (fun x0 x1 _ => [.mfn x0 x1]) (fun x0 x1 _ => [.bfn x0 x1]) (fun x0 x1 x2 => [.iv x0 x1 x2]) ([.opq]) (fun x0 x1 => [.usl x0 x1]) (fun x0 x1 => [.sx x0 x1]) (fun x0 => [.ss x0]) (fun x0 x1 x2 => [.xsl x0 x1 x2]) (fun x0 x1 => [.xp x0 x1]) (fun x0 x1 => [.xsu x0 x1]) () (fun _ _ _ _ => ())
theorem VR.cells {v : V} {x : Value} (h : VR e v x) : VRs e v.cells x.cells.toList := by
  cases h with
  | agg h => exact h
  | tup h => exact .cons (.tup h) .nil
  | yld h => exact .cons (.yld h) .nil
  | mfn h => exact .cons (.mfn h) .nil
  | bfn h => exact .cons (.bfn h) .nil
  | iv h1 h2 => exact .cons (.iv h1 h2) .nil
  | opq h hb => cases x <;> first | exact .cons (.opq h hb) .nil | cases h
  | usl h1 h2 => exact .cons (.usl h1 h2) .nil
  | sx h hw => exact .cons (.sx h hw) .nil
  | ss h => exact .cons (.ss h) .nil
  | xsl h hl hc => exact .cons (.xsl h hl hc) .nil
  | xp h hl => exact .cons (.xp h hl) .nil
  | xsu h hl ha => exact .cons (.xsu h hl ha) .nil
  | int => exact .cons (.int _ _) .nil
  | bool => exact .cons (.bool _) .nil
  | str => exact .cons (.str _) .nil
  | nilp => exact .cons .nilp .nil
  | ptr h => exact .cons (.ptr h) .nil
  | nils => exact .cons .nils .nil
  | sl h hl => exact .cons (.sl h hl) .nil
  | slu h hl hc => exact .cons (.slu h hl hc) .nil
  | slu0 h hx => exact .cons (.slu0 h hx) .nil
  | sl0 h => exact .cons (.sl0 h) .nil
  | nilm => exact .cons .nilm .nil
  | map h => exact .cons (.map h) .nil
  | nilf => exact .cons .nilf .nil
  | fn h => exact .cons (.fn h) .nil
  | nili => exact .cons .nili .nil
  | ifc h => exact .cons (.ifc h) .nil
/-- A block. -/
inductive B where
  | cells (t : T V) (n : Nat)
  | map (es : List (V × V × Nat)) (clock : Nat)
  | iter (m : Option Nat) (since : Nat) (seen : List Nat) (last : Nat)
  | loop (t : T V) (ps : List Nat) (as bd : Code)
  | gone
def un : V := .tup []
inductive ER (e : Env) : List (V × V × Nat) → List MapEntry → Prop where
  | nil : ER e [] []
  | cons {k x v y n l es} (hk : VR e k x) (hv : VR e v y) (t : ER e l es) : ER e ((k, v, n) :: l) (⟨x, y, n⟩ :: es)
theorem ER.mono {e e' : Env} (hle : e.le e') : ∀ {l es}, ER e l es → ER e' l es
  | _, _, .nil => .nil
  | _, _, .cons hk hv t => .cons (hk.mono hle) (hv.mono hle) (ER.mono hle t)
inductive BR (e : Env) : Loc → B → Obj → Prop where
  | cells {n sh sz t m c el fr} (hs : c.size = sz) (hm : sh + m ≤ sz) (hc : ∀ i, i < m → ∃ x, c[sh + i]? = some x ∧ VR e (t.get un i) x) (hh : ∀ i, i < m → t.has i = true)
      (hf : fr.1 = fr.2 ∨ sz ≤ fr.1) : BR e ⟨n, sh, sz⟩ (.cells t m) (.cells c el fr)
  | map {n sz l es clock} (h : ER e l es) : BR e ⟨n, 0, sz⟩ (.map l clock) (.map ⟨es⟩ clock)
  | iter0 {n sz since seen last} : BR e ⟨n, 0, sz⟩ (.iter none since seen last) (.mapIter none since ⟨seen⟩ last)
  | iter {n sz b k sh' sz' since seen last} (h : e b = some ⟨k, sh', sz'⟩) : BR e ⟨n, 0, sz⟩ (.iter (some b) since seen last) (.mapIter (some k) since ⟨seen⟩ last)
  | loop {n sz t ps as bd lp} (h1 : lp.state = .ready) (h2 : lp.pending = none) (h3 : lp.params.toList = ps) (h4 : lp.assign = as) (h5 : lp.body = bd) (h6 : ∀ i, t.has i = true ↔ i < lp.tmps.size) (h7 : ∀ i, VR e (t.get un i) (lp.tmps.getD i undef)) :
      BR e ⟨n, 0, sz⟩ (.loop t ps as bd) (.loop lp)
theorem fr_free {sz : Nat} {fr : Nat × Nat} (hf : fr.1 = fr.2 ∨ sz ≤ fr.1) : ∀ i, i < sz → ¬ (fr.1 ≤ i ∧ i < fr.2) := fun i hi => by omega
theorem BR.mono {e e' : Env} (hle : e.le e') {x : Loc} {b : B} {o : Obj} (h : BR e x b o) : BR e' x b o := by
  cases h with
  | cells hs hm hc hh hf => exact .cells hs hm (fun i hi => let ⟨x, h1, h2⟩ := hc i hi; ⟨x, h1, h2.mono hle⟩) hh hf
  | map h => exact .map (h.mono hle)
  | iter0 => exact .iter0
  | iter h => exact .iter (hle.of _ _ h)
  | loop h1 h2 h3 h4 h5 h6 h7 => exact .loop h1 h2 h3 h4 h5 h6 (fun i => (h7 i).mono hle)
abbrev H := T B
/-- The block lives. -/
def live (h : H) (b : Nat) : Prop := h.get .gone b ≠ .gone
structure Sim (e : Env) (h : H) (w : World) : Prop where
  blk : ∀ b, live h b → ∃ x o, e b = some x ∧ w.heap[x.n]? = some o ∧ BR e x (h.get .gone b) o
  inj : ∀ b b' x x', live h b → live h b' → e b = some x → e b' = some x' → x.n = x'.n → b = b'
  big : ∀ n, e.base.prot n → n < w.heap.size
  old : ∀ n, e.base.prot n → w.heap[n]? = e.base.w0 n
  above : ∀ b x, live h b → e b = some x → ¬ e.base.prot x.n
/-- The numbers from s on are free. -/
def Free (e : Env) (s : Nat) : Prop := ∀ b, s ≤ b → e b = none
/-- What a piece of a run leaves. -/
structure Post (e : Env) (s : Nat) (h : H) (w : World) (e' : Env) (s' : Nat) (h' : H) (w' : World) : Prop where
  le : e.le e'
  low : ∀ b, b < s → e' b = e b
  up : s ≤ s'
  free : Free e' s'
  sim : Sim e' h' w'
  dom : ∀ b x, live h' b → e' b = some x → (∃ b₀ x₀, live h b₀ ∧ e b₀ = some x₀ ∧ x₀.n = x.n) ∨ w.heap.size ≤ x.n
  keep : ∀ n, n < w.heap.size → (∀ b x, live h b → e b = some x → x.n ≠ n) → w'.heap[n]? = w.heap[n]?
  size : w.heap.size ≤ w'.heap.size
  os : w'.os = w.os
  tape : w'.tape = w.tape
  output : w'.output = w.output
theorem Post.refl {e : Env} {s : Nat} {h : H} {w : World} (hs : Sim e h w) (hf : Free e s) : Post e s h w e s h w :=
  ⟨Env.le.refl e, fun _ _ => rfl, Nat.le_refl _, hf, hs, fun b x hb hx => .inl ⟨b, x, hb, hx, rfl⟩, fun _ _ _ => rfl, Nat.le_refl _, rfl, rfl, rfl⟩
theorem Post.trans {e e' e'' : Env} {s s' s'' : Nat} {h h' h'' : H} {w w' w'' : World} (p : Post e s h w e' s' h' w') (q : Post e' s' h' w' e'' s'' h'' w'') : Post e s h w e'' s'' h'' w'' where
  le := p.le.trans q.le
  low := fun b hb => (q.low b (Nat.lt_of_lt_of_le hb p.up)).trans (p.low b hb)
  up := Nat.le_trans p.up q.up
  free := q.free
  sim := q.sim
  dom := fun b x hb hx => by
    rcases q.dom b x hb hx with ⟨b₀, x₀, h1, h2, h3⟩ | h1
    · rcases p.dom b₀ x₀ h1 h2 with ⟨b₁, x₁, g1, g2, g3⟩ | g1
      · exact .inl ⟨b₁, x₁, g1, g2, g3.trans h3⟩
      · exact .inr (h3 ▸ g1)
    · exact .inr (Nat.le_trans p.size h1)
  keep := fun n hn hk => by
    rw [q.keep n (Nat.lt_of_lt_of_le hn p.size) (fun b x hb hx => ?_), p.keep n hn hk]
    rcases p.dom b x hb hx with ⟨b₀, x₀, h1, h2, h3⟩ | h1
    · rw [← h3]; exact hk b₀ x₀ h1 h2
    · exact fun he => absurd (he ▸ h1) (by omega)
  size := Nat.le_trans p.size q.size
  os := q.os.trans p.os
  tape := q.tape.trans p.tape
  output := q.output.trans p.output
/-- Drawing from the tape turns nothing. -/
theorem Sim.drew {h : H} {w : World} (hs : Sim e h w) (w' : World) (hw : w'.heap = w.heap) : Sim e h w' := ⟨fun b hb => by rw [hw]; exact hs.blk b hb, hs.inj, by rw [hw]; exact hs.big, by rw [hw]; exact hs.old, hs.above⟩
theorem Post.drew {s s' : Nat} {h h' : H} {w w₁ w' : World} {e' : Env} (hw : w₁.heap = w.heap) (ho : w₁.os = w.os) (ht : w₁.tape = w.tape) (hu : w₁.output = w.output) (p : Post e s h w₁ e' s' h' w') : Post e s h w e' s' h' w' :=
  ⟨p.le, p.low, p.up, p.free, p.sim, by rw [← hw]; exact p.dom, by rw [← hw]; exact p.keep, by rw [← hw]; exact p.size, p.os.trans ho, p.tape.trans ht, p.output.trans hu⟩
end Go.Ev
