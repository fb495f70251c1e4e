/- An evaluator of the model's code: what an operation leans on. -/
import Derived.Test.YtnklmadmenkdoaaGreatEvT
set_option linter.unusedVariables false
set_option linter.unusedSimpArgs false
namespace Go.Ev
variable {D : List Deferred}
variable {P : Program} {pr : Prims} {ih : Rn} {e : Env} {t t' : T V} {h : H} {s : Nat} {w : World} {a : Act} {r : RO} {k : K} {o : Oper}
theorem ceq_ok {x y : V} (h : ceq x y = true) : x = y := by
  unfold ceq at h
  split at h
  · rename_i k1 a k2 b
    cases hk : keq k1 k2 with
    | false => rw [hk] at h; cases h
    | true =>
      rw [hk] at h
      rw [keq_eq hk]
      simp only [cond_true, ieq_eq] at h
      have : a = b := by simpa using h
      rw [this]
  · rename_i a b; cases a <;> cases b <;> first | rfl | cases h
  · rw [ba_eq h]
  · rfl
  · obtain ⟨h1, h2⟩ := and2 h; rw [Nat.eq_of_beq_eq_true h1, Nat.eq_of_beq_eq_true h2]
  · rfl
  · obtain ⟨h1, h4⟩ := and2 h; obtain ⟨h1, h2, h3⟩ := and3 h1; rw [Nat.eq_of_beq_eq_true h1, Nat.eq_of_beq_eq_true h2, Nat.eq_of_beq_eq_true h3, Nat.eq_of_beq_eq_true h4]
  · obtain ⟨h1, h4⟩ := and2 h; obtain ⟨h1, h2, h3⟩ := and3 h1; rw [Nat.eq_of_beq_eq_true h1, Nat.eq_of_beq_eq_true h2, Nat.eq_of_beq_eq_true h3, Nat.eq_of_beq_eq_true h4]
  · rfl
  · rw [Nat.eq_of_beq_eq_true h]
  · rfl
  · rw [Nat.eq_of_beq_eq_true h]
  · rfl
  · cases h
theorem ceqs_ok : ∀ {l m : List V}, ceqs l m = true → l = m
  | [], [], h => rfl
  | [], y :: m, h => by cases h
  | x :: l, [], h => by cases h
  | x :: l, y :: m, h => by
    change (bif ceq x y then ceqs l m else false) = true at h
    cases hc : ceq x y with
    | false => rw [hc] at h; cases h
    | true => rw [hc] at h; rw [ceq_ok hc, ceqs_ok h]
theorem veqB_ok {x y : V} (h : veqB x y = true) : x = y := by
  unfold veqB at h
  split at h
  · rw [ceqs_ok h]
  · rw [ceqs_ok h]
  · rename_i t v u w
    cases hc : Nat.beq t u with
    | false => rw [hc] at h; cases h
    | true => rw [hc] at h; rw [Nat.eq_of_beq_eq_true hc, ceq_ok h]
  · exact ceq_ok h
theorem opnd_congr {x : Operand} (hx : ∀ u, x = .tmp u → t.get un u = t'.get un u) (f : V → RO) : opnd t x f = opnd t' x f := by
  cases x with
  | tmp u => simp only [opnd]; rw [hx u rfl]
  | const v => rfl
  | global g => rfl
  | func f => rfl
theorem opnds_congr : ∀ {l : List Operand}, (∀ x ∈ l, ∀ f, opnd t x f = opnd t' x f) → ∀ f, opnds t l f = opnds t' l f
  | [], _, f => rfl
  | x :: l, hx, f => by
    show opnd t x (fun v => opnds t l (fun vs => f (v :: vs))) = opnd t' x (fun v => opnds t' l (fun vs => f (v :: vs)))
    rw [hx x (by simp)]
    congr 1; funext v
    exact opnds_congr (fun y hy => hx y (by simp [hy])) _
theorem opparts_congr : ∀ {l : List (Nat × Operand)}, (∀ x ∈ l, ∀ f, opnd t x.2 f = opnd t' x.2 f) → ∀ f, opparts t l f = opparts t' l f
  | [], _, f => rfl
  | x :: l, hx, f => by
    show opnd t x.2 (fun v => opparts t l (fun vs => f ((x.1, v) :: vs))) = opnd t' x.2 (fun v => opparts t' l (fun vs => f ((x.1, v) :: vs)))
    rw [hx x (by simp)]
    congr 1; funext v
    exact opparts_congr (fun y hy => hx y (by simp [hy])) _
theorem bound_congr {x : Option Operand} (hx : ∀ y, x = some y → ∀ f, opnd t y f = opnd t' y f) (d : Nat) (f : Nat → RO) : bound t x d f = bound t' x d f := by
  cases x with
  | none => rfl
  | some y => simp only [bound]; rw [hx y rfl]
/-- An operation leans on its operands alone. -/
theorem opF_congr {op : Op} (hA : ∀ x ∈ op.operands.toList, ∀ f, opnd t x f = opnd t' x f) : opF op P pr ih t h s k = opF op P pr ih t' h s k := by
  cases op
  case move x => have h1 := hA x (by simp [Op.operands]); simp only [opF, oMove, h1]
  case assign x => have h1 := hA x (by simp [Op.operands]); simp only [opF, oMove, h1]
  case pick c x y =>
    have h1 := hA c (by simp [Op.operands]); have h2 := hA x (by simp [Op.operands]); have h3 := hA y (by simp [Op.operands])
    simp only [opF, oPick, h1, h2, h3]
  case box e x => have h1 := hA x (by simp [Op.operands]); simp only [opF, oBox, h1]
  case build ty ps =>
    have h1 : ∀ f, opparts t ps.toList f = opparts t' ps.toList f := opparts_congr (fun x hx => hA x.2 (by simp only [Op.operands]; simp; exact ⟨_, by simpa using hx⟩))
    simp only [opF, oBuild, h1]
  case buildSlice ty n ps =>
    have h1 : ∀ f, opparts t ps.toList f = opparts t' ps.toList f := opparts_congr (fun x hx => hA x.2 (by simp only [Op.operands]; simp; exact ⟨_, by simpa using hx⟩))
    simp only [opF, oBuildSlice, h1]
  case load ty x => have h1 := hA x (by simp [Op.operands]); simp only [opF, oLoad, h1]
  case store ty x y => have h1 := hA x (by simp [Op.operands]); have h2 := hA y (by simp [Op.operands]); simp only [opF, oStore, h1, h2]
  case nilCheck x => have h1 := hA x (by simp [Op.operands]); simp only [opF, oNilCheck, h1]
  case binOp op ty x y yt => have h1 := hA x (by simp [Op.operands]); have h2 := hA y (by simp [Op.operands]); simp only [opF, oBin, h1, h2]
  case unOp op ty x => have h1 := hA x (by simp [Op.operands]); simp only [opF, oUn, h1]
  case convert s d x => have h1 := hA x (by simp [Op.operands]); simp only [opF, oConvert, oMark]; cases Nat.beq s d <;> simp only [cond_true, cond_false, oConvert, oMark, h1]
  case makeInterface ty x => have h1 := hA x (by simp [Op.operands]); simp only [opF, oMakeIface, h1]
  case makeFunc fn l m =>
    have h1 : ∀ f, opnds t m.toList f = opnds t' m.toList f := opnds_congr (fun x hx => hA x (by simp only [Op.operands, Array.toList_append, List.mem_append]; exact .inr hx))
    simp only [opF, oMakeFunc, h1]
    split
    · rfl
    · rename_i x hfirst
      have h2 := hA x (by
        simp only [Op.operands, Array.toList_append, List.mem_append]
        exact .inl (by rw [hfirst]; simp))
      simp only [h2]
    · rename_i x hfirst
      have h2 := hA x (by
        simp only [Op.operands, Array.toList_append, List.mem_append]
        exact .inl (by rw [hfirst]; simp))
      simp only [h2]
    · rfl
  case makeSlice ty x y => have h1 := hA x (by simp [Op.operands]); have h2 := hA y (by simp [Op.operands]); simp only [opF, oMakeSlice, h1, h2]
  case slice ty x lo hi mx =>
    have h1 := hA x (by simp [Op.operands])
    have h2 : ∀ d f, bound t lo d f = bound t' lo d f := bound_congr (fun y hy => hA y (by simp [Op.operands, hy]))
    have h3 : ∀ d f, bound t hi d f = bound t' hi d f := bound_congr (fun y hy => hA y (by simp [Op.operands, hy]))
    have h4 : ∀ d f, bound t mx d f = bound t' mx d f := bound_congr (fun y hy => hA y (by simp [Op.operands, hy]))
    simp only [opF, oSlice, h1, h2, h3, h4]
  case fieldAddr ty x i => have h1 := hA x (by simp [Op.operands]); simp only [opF, oFieldAddr, h1]
  case field ty x i => have h1 := hA x (by simp [Op.operands]); simp only [opF, oField, h1]
  case indexAddr ty x y => have h1 := hA x (by simp [Op.operands]); have h2 := hA y (by simp [Op.operands]); simp only [opF, oIndexAddr, h1, h2]
  case index ty x y => have h1 := hA x (by simp [Op.operands]); have h2 := hA y (by simp [Op.operands]); simp only [opF, oIndex, h1, h2]
  case lookup ty x y c => have h1 := hA x (by simp [Op.operands]); have h2 := hA y (by simp [Op.operands]); simp only [opF, oLookup, h1, h2]
  case mapUpdate ty x y z => have h1 := hA x (by simp [Op.operands]); have h2 := hA y (by simp [Op.operands]); have h3 := hA z (by simp [Op.operands]); simp only [opF, oMapUpdate, h1, h2, h3]
  case range ty x => have h1 := hA x (by simp [Op.operands]); simp only [opF, oRange, h1]
  case entry x => have h1 := hA x (by simp [Op.operands]); simp only [opF, oEntry, h1]
  case next x c => have h1 := hA x (by simp [Op.operands]); simp only [opF, oNext, h1]
  case extract x i => have h1 := hA x (by simp [Op.operands]); simp only [opF, oExtract, h1]
  case call c =>
    have h1 : ∀ f, opnds t c.args.toList f = opnds t' c.args.toList f := opnds_congr (fun x hx => hA x (by simp only [Op.operands, Call.operands, Array.toList_append, List.mem_append]; exact .inr hx))
    obtain ⟨cal, args, at_⟩ := c
    cases cal with
    | value x =>
      have h2 := hA x (by simp [Op.operands, Call.operands])
      simp only [opF, oCall, h1, h2]
    | invoke x n =>
      have h2 := hA x (by simp [Op.operands, Call.operands])
      simp only [opF, oCall, h1, h2]
    | builtin b => simp only [opF, oCall, h1]
  all_goals rfl
/-- An operation that reads nothing does not lean on memory. -/
theorem opF_indep {op : Op} (hc : cls op = 0) : opF op P pr ih t h s k = opF op P pr ih t E0 0 (fun v _ _ => k v h s) := by
  cases op <;> first | rfl | (cases hc; done) | skip
  case call c => obtain ⟨cal, args, at_⟩ := c; cases cal with
    | builtin b => cases b <;> cases hc
    | value _ => cases hc
    | invoke _ _ => cases hc
  case convert a b x =>
    cases hq : Nat.beq a b with
    | true => simp [cls, hq] at hc
    | false => simp [cls, hq] at hc
end Go.Ev
