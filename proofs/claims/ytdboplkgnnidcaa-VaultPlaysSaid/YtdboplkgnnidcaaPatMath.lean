/- Words as bytes and back; plain lists. No program in sight. -/
import Derived.WalkKit
set_option linter.unusedVariables false
namespace Pat
def be4 (x : Nat) : List Nat := [x / 16777216 % 256, x / 65536 % 256, x / 256 % 256, x % 256]
def bytesOf : List Nat → List Nat
  | [] => []
  | x :: l => be4 x ++ bytesOf l
theorem bytesOf_app (a b : List Nat) : bytesOf (a ++ b) = bytesOf a ++ bytesOf b := by
  induction a with
  | nil => rfl
  | cons x a ih => simp [bytesOf, ih]
theorem bytesOf_snoc (a : List Nat) (x : Nat) : bytesOf (a ++ [x]) = bytesOf a ++ be4 x := by rw [bytesOf_app]; simp [bytesOf]
theorem be4_len (x : Nat) : (be4 x).length = 4 := rfl
theorem bytesOf_len (l : List Nat) : (bytesOf l).length = 4 * l.length := by
  induction l with
  | nil => rfl
  | cons x l ih => simp only [bytesOf, List.length_append, be4_len, ih, List.length_cons]; omega
theorem be4_lt (x y : Nat) (h : y ∈ be4 x) : y < 256 := by
  simp only [be4, List.mem_cons, List.not_mem_nil, or_false] at h; omega
theorem bytesOf_lt (l : List Nat) : ∀ y ∈ bytesOf l, y < 256 := by
  induction l with
  | nil => intro y hy; simp [bytesOf] at hy
  | cons x l ih =>
    intro y hy
    simp only [bytesOf, List.mem_append] at hy
    rcases hy with h | h
    · exact be4_lt x y h
    · exact ih y h
theorem be4_inj (x y : Nat) (hx : x < 4294967296) (hy : y < 4294967296) (h : be4 x = be4 y) : x = y := by
  simp only [be4, List.cons.injEq, and_true] at h; omega
theorem bytesOf_inj : ∀ (a b : List Nat), (∀ x ∈ a, x < 4294967296) → (∀ x ∈ b, x < 4294967296) → bytesOf a = bytesOf b → a = b
  | [], [], _, _, _ => rfl
  | [], y :: b, _, _, h => by simp [bytesOf, be4] at h
  | x :: a, [], _, _, h => by simp [bytesOf, be4] at h
  | x :: a, y :: b, ha, hb, h => by
    have h1 := List.append_inj h (by simp [be4_len])
    rw [be4_inj x y (ha x (by simp)) (hb y (by simp)) h1.1, bytesOf_inj a b (fun z hz => ha z (by simp [hz])) (fun z hz => hb z (by simp [hz])) h1.2]
theorem bytesOf_take (l : List Nat) (k : Nat) (h : k < l.length) : bytesOf (l.take (k + 1)) = bytesOf (l.take k) ++ be4 l[k] := by
  rw [List.take_succ_eq_append_getElem h, bytesOf_snoc]
/-- Four bytes as a word. -/
def w4 (a b c d : Nat) : Nat := a * 16777216 + b * 65536 + c * 256 + d
def wordsOf : List Nat → List Nat
  | a :: b :: c :: d :: l => w4 a b c d :: wordsOf l
  | _ => []
theorem wordsOf_bytesOf (l : List Nat) (h : ∀ x ∈ l, x < 4294967296) : wordsOf (bytesOf l) = l := by
  induction l with
  | nil => rfl
  | cons x l ih =>
    simp only [bytesOf, be4, List.cons_append, List.nil_append, wordsOf]
    rw [ih (fun y hy => h y (by simp [hy]))]
    have := h x (by simp)
    congr 1
    unfold w4; omega
theorem wordsOf_len (l : List Nat) : (wordsOf l).length = l.length / 4 := by
  induction l using wordsOf.induct with
  | case1 a b c d l ih => simp only [wordsOf, List.length_cons, ih]; omega
  | case2 l h =>
    match l, h with
    | [], _ => simp [wordsOf]
    | [_], _ => simp [wordsOf]
    | [_, _], _ => simp [wordsOf]
    | [_, _, _], _ => simp [wordsOf]
    | a :: b :: c :: d :: l, h => exact absurd rfl (h a b c d l)
theorem wordsOf_snoc (l : List Nat) (a b c d : Nat) (h : l.length % 4 = 0) : wordsOf (l ++ [a, b, c, d]) = wordsOf l ++ [w4 a b c d] := by
  induction l using wordsOf.induct with
  | case1 x y z u l ih =>
    simp only [List.cons_append, wordsOf]
    rw [ih (by simp only [List.length_cons] at h; omega)]
  | case2 l hh =>
    match l, h, hh with
    | [], _, _ => rfl
    | [_], h, _ => simp at h
    | [_, _], h, _ => simp at h
    | [_, _, _], h, _ => simp at h
    | a :: b :: c :: d :: l, _, hh => exact absurd rfl (hh a b c d l)
theorem wordsOf_take (l : List Nat) (k : Nat) (h : 4 * k + 4 ≤ l.length) :
    wordsOf (l.take (4 * k + 4)) = wordsOf (l.take (4 * k)) ++ [w4 (l[4 * k]'(by omega)) (l[4 * k + 1]'(by omega)) (l[4 * k + 2]'(by omega)) (l[4 * k + 3]'(by omega))] := by
  rw [← wordsOf_snoc _ _ _ _ _ (by simp [List.length_take]; omega)]
  congr 1
  rw [show 4 * k + 4 = (4 * k + 3) + 1 by omega, List.take_succ_eq_append_getElem (by omega), List.take_succ_eq_append_getElem (show 4 * k + 2 < l.length by omega),
    List.take_succ_eq_append_getElem (show 4 * k + 1 < l.length by omega), List.take_succ_eq_append_getElem (show 4 * k < l.length by omega)]
  simp only [List.append_assoc, List.cons_append, List.nil_append]
theorem w4_lt (a b c d : Nat) (ha : a < 256) (hb : b < 256) (hc : c < 256) (hd : d < 256) : w4 a b c d < 4294967296 := by unfold w4; omega
theorem wordsOf_lt (l : List Nat) (h : ∀ x ∈ l, x < 256) : ∀ y ∈ wordsOf l, y < 4294967296 := by
  induction l using wordsOf.induct with
  | case1 a b c d l ih =>
    intro y hy
    simp only [wordsOf, List.mem_cons] at hy
    rcases hy with rfl | hy
    · exact w4_lt _ _ _ _ (h _ (by simp)) (h _ (by simp)) (h _ (by simp)) (h _ (by simp))
    · exact ih (fun z hz => h z (by simp [hz])) y hy
  | case2 l hh => intro y hy; rw [wordsOf] at hy; · simp at hy
                  · exact hh
end Pat
