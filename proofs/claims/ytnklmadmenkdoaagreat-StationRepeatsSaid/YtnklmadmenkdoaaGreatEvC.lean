/- An evaluator of the model's code, third part: the laws of blocks, temporaries and operands. -/
import Derived.Test.YtnklmadmenkdoaaGreatEvB
set_option linter.unusedVariables false
set_option linter.unusedSimpArgs false
namespace Go.Ev
variable {D : List Deferred}
variable {P : Program} {pr : Prims} {ih : Rn} {e : Env} {t : T V} {h : H} {s : Nat} {w : World} {a : Act}
def RO.good : RO → Prop
  | .err _ => False
  | .or a b => a.good ∧ b.good
  | _ => True
/-- The one is among what the other leaves. -/
inductive Sub : RO → RO → Prop where
  | refl (r : RO) : Sub r r
  | left {x a b : RO} (h : Sub x a) : Sub x (.or a b)
  | right {x a b : RO} (h : Sub x b) : Sub x (.or a b)
theorem Sub.trans {x y z : RO} (h : Sub x y) (h' : Sub y z) : Sub x z := by
  induction h' with
  | refl => exact h
  | left _ ih => exact .left ih
  | right _ ih => exact .right ih
theorem Sub.good {x r : RO} (h : Sub x r) (hr : r.good) : x.good := by
  induction h with
  | refl => exact hr
  | left _ ih => exact ih hr.1
  | right _ ih => exact ih hr.2
theorem Sub.bnd {x r : RO} (h : Sub x r) (fn : T V → H → Nat → RO) (fe : Nat → T V → H → Nat → RO) (fr : T V → H → Nat → RO) : Sub (x.bnd fn fe fr) (r.bnd fn fe fr) := by
  induction h with
  | refl => exact .refl _
  | left _ ih => exact .left ih
  | right _ ih => exact .right ih
theorem RO.good_bnd {fn : T V → H → Nat → RO} {fe : Nat → T V → H → Nat → RO} {fr : T V → H → Nat → RO} : ∀ {r : RO}, (r.bnd fn fe fr).good → r.good
  | .norm .., _ => trivial
  | .exit .., _ => trivial
  | .ret .., _ => trivial
  | .err _, h => h
  | .or a b, h => ⟨RO.good_bnd (r := a) h.1, RO.good_bnd (r := b) h.2⟩
/-- What the temporaries stand for. -/
structure TR (e : Env) (t : T V) (tm : Array Value) : Prop where
  has : ∀ i, t.has i = true ↔ i < tm.size
  val : ∀ i, VR e (t.get un i) (tm.getD i undef)
theorem undef_VR : VR e un undef := .tup .nil
theorem TR.mono {e' : Env} (hle : e.le e') {tm : Array Value} (h : TR e t tm) : TR e' t tm := ⟨h.has, fun i => (h.val i).mono hle⟩
theorem TR.put {tm : Array Value} (h : TR e t tm) {d : Nat} {v : V} {x : Value} (hv : VR e v x) : TR e (t.set d v) (tm.setIfInBounds d x) where
  has := fun i => by rw [T.has_set]; simpa using h.has i
  val := fun i => by
    by_cases hd : t.has d = true
    · rw [T.get_set un t d i v hd]
      have hlt := (h.has d).1 hd
      by_cases hi : i = d
      · subst hi; rw [if_pos rfl]; simpa [Array.getD, hlt] using hv
      · rw [if_neg hi]
        have := h.val i
        simp only [Array.getD_eq_getD_getElem?] at this ⊢
        rwa [Array.getElem?_setIfInBounds_ne (Ne.symm hi)]
    · have hd' : t.has d = false := by simpa using hd
      rw [T.set_off t d v hd']
      have hge : ¬ d < tm.size := fun hlt => hd ((h.has d).2 hlt)
      have : tm.setIfInBounds d x = tm := by simp [Array.setIfInBounds, hge]
      rw [this]; exact h.val i
/-- The activation stands for the tree. -/
structure AR (D : List Deferred) (e : Env) (t : T V) (a : Act) : Prop where
  tr : TR e t a.tmps
  nodef : a.defers = D
theorem AR.mono {e' : Env} (hle : e.le e') (h : AR D e t a) : AR D e' t a := ⟨h.tr.mono hle, h.nodef⟩
theorem AR.put (h : AR D e t a) {dst : Option Tmp} {v : V} {x : Value} (hv : VR e v x) : AR D e (putT dst t v) (a.put dst x) := by
  cases dst with
  | none => exact h
  | some d => exact ⟨h.tr.put hv, h.nodef⟩
theorem ofCell_VR {x : Value} {v : V} (h : ofCell x = some v) : VR e v x := by
  unfold ofCell at h
  split at h <;> first | (injection h with h; subst h) | cases h
  all_goals constructor
theorem ofCells_VR : ∀ {l : List Value} {vs : List V}, ofCells l = some vs → VRs e vs l
  | [], vs, h => by injection h with h; subst h; exact .nil
  | x :: l, vs, h => by
    change (match ofCell x, ofCells l with | some v, some l => some (v :: l) | _, _ => none) = some vs at h
    split at h
    · rename_i v l' h1 h2
      injection h with h; subst h
      exact .cons (ofCell_VR h1) (ofCells_VR h2)
    · cases h
theorem ofV_VR {x : Value} {v : V} (h : ofV x = some v) : VR e v x := by
  unfold ofV at h
  split at h
  · rename_i cs
    split at h
    · rename_i l hl
      injection h with h; subst h
      exact .agg (xs := cs.toList) (ofCells_VR hl)
    · cases h
  · rename_i cs
    split at h
    · rename_i hc
      injection h with h; subst h
      have : cs = ⟨[]⟩ := by cases cs; simpa using hc
      subst this
      exact .tup .nil
    · cases h
  · exact ofCell_VR h
theorem opnd_ok {x : Operand} {f : V → RO} {r : RO} (h : opnd t x f = r) (hr : r.good) (ha : AR D e t a) : ∃ v, f v = r ∧ VR e v (a.eval x) := by
  cases x with
  | tmp i => exact ⟨_, h, ha.tr.val i⟩
  | const v =>
    simp only [opnd] at h
    split at h
    · rename_i u hu; exact ⟨u, h, ofV_VR hu⟩
    · subst h; cases hr
  | global g => simp only [opnd] at h; subst h; cases hr
  | func f => exact ⟨_, h, .fn .nil⟩
theorem opnds_ok : ∀ {l : List Operand} {f : List V → RO} {r : RO}, opnds t l f = r → r.good → AR D e t a → ∃ vs, f vs = r ∧ VRs e vs (l.map a.eval)
  | [], f, r, h, hr, ha => ⟨[], h, .nil⟩
  | x :: l, f, r, h, hr, ha => by
    obtain ⟨v, h1, hv⟩ := opnd_ok (a := a) (f := fun v => opnds t l (fun vs => f (v :: vs))) h hr ha
    obtain ⟨vs, h2, hvs⟩ := opnds_ok h1 hr ha
    exact ⟨v :: vs, h2, .cons hv hvs⟩
theorem opparts_ok : ∀ {l : List (Nat × Operand)} {f : List (Nat × V) → RO} {r : RO}, opparts t l f = r → r.good → AR D e t a →
    ∃ vs, f vs = r ∧ vs.map (·.1) = l.map (·.1) ∧ VRs e (vs.map (·.2)) (l.map fun p => a.eval p.2)
  | [], f, r, h, hr, ha => ⟨[], h, rfl, .nil⟩
  | p :: l, f, r, h, hr, ha => by
    obtain ⟨v, h1, hv⟩ := opnd_ok (a := a) (f := fun v => opparts t l (fun vs => f ((p.1, v) :: vs))) h hr ha
    obtain ⟨vs, h2, h3, hvs⟩ := opparts_ok h1 hr ha
    exact ⟨(p.1, v) :: vs, h2, by simp [h3], .cons hv hvs⟩
theorem len_eq : ∀ (l : List V), len l = l.length
  | [] => rfl
  | _ :: l => by show Nat.succ (len l) = _; rw [len_eq l]; simp
theorem live_has {b : Nat} (h1 : live h b) : h.has b = true := by
  cases hb : h.has b with
  | true => rfl
  | false => exact (h1 (T.get_off .gone h b hb)).elim
theorem live_of_cells {b : Nat} {x : B} (h1 : h.get .gone b = x) (hx : x ≠ .gone) : live h b := by unfold live; rw [h1]; exact hx
/-- A block more. -/
theorem alloc_post (hs : Sim e h w) (hf : Free e s) (hh : h.has s = true) {blk : B} (hg : blk ≠ .gone) {o : Obj} {sz : Nat}
    (hb : ∀ e', e.le e' → BR e' ⟨w.heap.size, 0, sz⟩ blk o) :
    ∃ e', e' s = some ⟨w.heap.size, 0, sz⟩ ∧ Post e s h w e' (s + 1) (h.set s blk) (w.alloc o) := by
  have hle : e.le (fun b => if b = s then some ⟨w.heap.size, 0, sz⟩ else e b) := by
    intro b x hx
    by_cases hbs : b = s
    · subst hbs; rw [hf b (Nat.le_refl _)] at hx; cases hx
    · simp only [hbs, if_false]; exact hx
  have hdead : ¬ live h s := fun hl => by
    obtain ⟨x, o, h1, _⟩ := hs.blk s hl
    rw [hf s (Nat.le_refl _)] at h1; cases h1
  have hlv : ∀ b, b ≠ s → (live (h.set s blk) b ↔ live h b) := fun b hb => by
    unfold live; rw [T.get_set .gone h s b blk hh, if_neg hb]
  have hin : ∀ b x, live h b → e b = some x → x.n < w.heap.size := fun b x hl hx => by
    obtain ⟨x', o', h1, h2, _⟩ := hs.blk b hl
    rw [hx] at h1; injection h1 with h1; subst h1
    exact (Array.getElem?_eq_some_iff.1 h2).1
  refine ⟨_, by simp, hle, fun b hb => by simp [Nat.ne_of_lt hb], Nat.le_succ s, fun b hb => ?_, ⟨fun b hl => ?_, fun b b' x x' hl hl' hx hx' hn => ?_⟩, fun b x hl hx => ?_, fun n hn _ => ?_, ?_, rfl, rfl, rfl⟩
  · simp only [show b ≠ s by omega, if_false]; exact hf b (by omega)
  · by_cases hbs : b = s
    · subst hbs
      refine ⟨⟨w.heap.size, 0, sz⟩, o, by simp, ?_, ?_⟩
      · show (w.heap.push o)[w.heap.size]? = some o; simp
      · rw [T.get_set .gone h b b blk hh, if_pos rfl]; exact hb _ hle
    · obtain ⟨x, o', h1, h2, h3⟩ := hs.blk b ((hlv b hbs).1 hl)
      refine ⟨x, o', by simp [hbs, h1], ?_, ?_⟩
      · show (w.heap.push o)[x.n]? = some o'
        obtain ⟨hlt, hval⟩ := Array.getElem?_eq_some_iff.1 h2
        rw [Array.getElem?_push_lt hlt, hval]
      · rw [T.get_set .gone h s b blk hh, if_neg hbs]; exact h3.mono hle
  · by_cases h1 : b = s <;> by_cases h2 : b' = s
    · rw [h1, h2]
    · exfalso
      subst h1
      simp at hx; subst hx
      simp only [h2, if_false] at hx'
      have := hin b' x' ((hlv b' h2).1 hl') hx'
      simp only at hn; omega
    · exfalso
      subst h2
      simp at hx'; subst hx'
      simp only [h1, if_false] at hx
      have := hin b x ((hlv b h1).1 hl) hx
      simp only at hn; omega
    · simp only [h1, h2, if_false] at hx hx'
      exact hs.inj b b' x x' ((hlv b h1).1 hl) ((hlv b' h2).1 hl') hx hx' hn
  · by_cases hbs : b = s
    · subst hbs; simp at hx; subst hx; exact .inr (Nat.le_refl _)
    · simp only [hbs, if_false] at hx
      exact .inl ⟨b, x, (hlv b hbs).1 hl, hx, rfl⟩
  · show (w.heap.push o)[n]? = _
    rw [Array.getElem?_push_lt hn]; simp [hn]
  · show w.heap.size ≤ (w.heap.push o).size; simp
/-- A block turned. -/
theorem set_post (hs : Sim e h w) (hf : Free e s) {b : Nat} (hl : live h b) {x : Loc} (hx : e b = some x) {blk : B} (hg : blk ≠ .gone) {o : Obj} (hb : BR e x blk o) :
    Post e s h w e s (h.set b blk) { w with heap := w.heap.setIfInBounds x.n o } := by
  have hh := live_has hl
  obtain ⟨x0, o0, h1, h2, _⟩ := hs.blk b hl
  rw [hx] at h1; injection h1 with h1; subst h1
  have hlt := (Array.getElem?_eq_some_iff.1 h2).1
  have hlv : ∀ b', live (h.set b blk) b' → live h b' := fun b' h' => by
    by_cases hb' : b' = b
    · subst hb'; exact hl
    · unfold live at h' ⊢; rwa [T.get_set .gone h b b' blk hh, if_neg hb'] at h'
  refine ⟨Env.le.refl e, fun _ _ => rfl, Nat.le_refl _, hf, ⟨fun b' hl' => ?_, fun b1 b2 x1 x2 l1 l2 => hs.inj b1 b2 x1 x2 (hlv b1 l1) (hlv b2 l2)⟩, fun b' x' hl' hx' => .inl ⟨b', x', hlv b' hl', hx', rfl⟩, fun n hn hk => ?_, by simp, rfl, rfl, rfl⟩
  · by_cases hb' : b' = b
    · subst hb'
      exact ⟨x, o, hx, by simp [hlt], by rw [T.get_set .gone h b' b' blk hh, if_pos rfl]; exact hb⟩
    · obtain ⟨x1, o1, g1, g2, g3⟩ := hs.blk b' (hlv b' hl')
      refine ⟨x1, o1, g1, ?_, by rw [T.get_set .gone h b b' blk hh, if_neg hb']; exact g3⟩
      have hne : x.n ≠ x1.n := fun hn => hb' (hs.inj b b' x x1 hl (hlv b' hl') hx g1 hn).symm
      show (w.heap.setIfInBounds x.n o)[x1.n]? = _
      rw [Array.getElem?_setIfInBounds_ne hne]; exact g2
  · show (w.heap.setIfInBounds x.n o)[n]? = _
    rw [Array.getElem?_setIfInBounds_ne (hk b x hl hx)]
/-- A block forgotten. -/
theorem gone_post (hs : Sim e h w) (hf : Free e s) {b : Nat} : Post e s h w e s (h.set b .gone) w := by
  have hlv : ∀ b', live (h.set b .gone) b' → live h b' ∧ (h.set b .gone).get .gone b' = h.get .gone b' := fun b' h' => by
    cases hb : h.has b with
    | false => rw [T.set_off h b _ hb] at h' ⊢; exact ⟨h', rfl⟩
    | true =>
      unfold live at h' ⊢
      rw [T.get_set .gone h b b' _ hb] at h' ⊢
      by_cases hbb : b' = b
      · rw [if_pos hbb] at h'; exact absurd rfl h'
      · rw [if_neg hbb] at h' ⊢; exact ⟨h', rfl⟩
  refine ⟨Env.le.refl e, fun _ _ => rfl, Nat.le_refl _, hf, ⟨fun b' hl' => ?_, fun b1 b2 x1 x2 l1 l2 => hs.inj b1 b2 x1 x2 (hlv b1 l1).1 (hlv b2 l2).1⟩, fun b' x' hl' hx' => .inl ⟨b', x', (hlv b' hl').1, hx', rfl⟩, fun n hn hk => rfl, Nat.le_refl _, rfl, rfl, rfl⟩
  obtain ⟨x1, o1, g1, g2, g3⟩ := hs.blk b' (hlv b' hl').1
  exact ⟨x1, o1, g1, g2, by rw [(hlv b' hl').2]; exact g3⟩
/-- The operation gives a value. -/
def Gives (P : Program) (m : Sem Next) (w : World) (R : Value → World → Prop) : Prop :=
  match m.run P w with
  | .ok (.value x) w' => R x w'
  | .ok .skip w' => R undef w'
  | .ok (.enter f args) w' => Calls P f args w' (fun en w'' => ∃ x, en = .returned x ∧ R x w'')
  | _ => False
/-- What the evaluator promises of an operation. -/
abbrev Good (e : Env) (s : Nat) (h : H) (w : World) (v : V) (h' : H) (s' : Nat) (x : Value) (w' : World) : Prop := ∃ e', VR e' v x ∧ Post e s h w e' s' h' w'
theorem gives_value {m : Sem Next} {R : Value → World → Prop} {x : Value} {w' : World} (hm : m.run P w = .ok (.value x) w') (hr : R x w') : Gives P m w R := by
  unfold Gives; rw [hm]; exact hr
theorem gives_skip {m : Sem Next} {R : Value → World → Prop} {w' : World} (hm : m.run P w = .ok .skip w') (hr : R undef w') : Gives P m w R := by
  unfold Gives; rw [hm]; exact hr
theorem run_v {m : Sem Value} {x : Value} {w' : World} (hm : m.run P w = .ok x w') : (do pure (.value (← m)) : Sem Next).run P w = .ok (.value x) w' := by
  simp [hm, Result.andThen]
theorem run_u {m : Sem Unit} {w' : World} (hm : m.run P w = .ok () w') : (do m; pure .skip : Sem Next).run P w = .ok .skip w' := by
  simp [hm, Result.andThen]
end Go.Ev
