/- An evaluator of the model's code, eighteenth part: regions in the text's order. -/
import Derived.Test.YtafoihbkhgnecaaGreatEvQ
set_option linter.unusedVariables false
set_option linter.unusedSimpArgs false
namespace Go.Ev
variable {D : List Deferred}
variable {P : Program} {pr : Prims} {ih : Rn} {e : Env} {t : T V} {h : H} {s : Nat} {w : World} {a : Act} {r : RO} {k : K} {o : Oper}
theorem LR.trans {e1 : Env} {s1 : Nat} {h1 : H} {w1 : World} (p : Post e s h w e1 s1 h1 w1) {x : Exit} {a' : Act} {w' : World} (q : LR D r e1 s1 h1 w1 x a' w') : LR D r e s h w x a' w' := by
  cases r with
  | norm t' h' s' => obtain ⟨g1, e', g2, g3⟩ := q; exact ⟨g1, e', g2, p.trans g3⟩
  | exit id t' h' s' => obtain ⟨g1, e', g2, g3⟩ := q; exact ⟨g1, e', g2, p.trans g3⟩
  | ret t' h' s' => obtain ⟨g1, e', g2, g3⟩ := q; exact ⟨g1, e', g2, p.trans g3⟩
  | err _ => exact q
theorem want_ok {all : List Oper} (ha : TR e t a.tmps) : Region.wanted o (yielded all.toArray a.tmps) = want all t o.guard := by
  unfold Region.wanted want
  cases hg : o.guard with
  | none => rfl
  | some p =>
    obtain ⟨j, b⟩ := p
    simp only
    unfold yielded
    have hj : all.toArray[j]? = all[j]? := by simp
    rw [hj]
    cases hd : all.drop j with
    | nil =>
      have : all[j]? = none := by
        rw [List.getElem?_eq_none_iff]
        have := congrArg List.length hd
        simp at this
        omega
      rw [this]; rfl
    | cons q rest =>
      have : all[j]? = some q := by
        have := congrArg (fun l => l[0]?) hd
        simpa using this
      rw [this]
      simp only [Option.bind_some]
      cases hq : q.dst with
      | none => rfl
      | some d =>
        simp only [Option.bind_some]
        have hv := ha.val d
        cases hx : a.tmps[d]? with
        | none =>
          have : a.tmps.getD d undef = undef := by simp [Array.getD_eq_getD_getElem?, hx]
          rw [this] at hv
          cases hgt : t.get un d with
          | bool c => rw [hgt] at hv; cases hv
          | _ => rfl
        | some x =>
          have : a.tmps.getD d undef = x := by simp [Array.getD_eq_getD_getElem?, hx]
          rw [this] at hv
          cases hgt : t.get un d with
          | bool c =>
            rw [hgt] at hv
            cases hv
            cases c <;> cases b <;> rfl
          | _ =>
            rw [hgt] at hv
            cases hv <;> rfl
theorem wp_of_gives {R : Value → World → Prop} {next : Act → World → Prop} {Q : Exit → Act → World → Prop} (hg : Gives P (execOp a.eval o) w R) (hn : ∀ x w', R x w' → next (a.put o.dst x) w') : o.wp P a w next Q := by
  unfold Oper.wp
  unfold Gives at hg
  generalize (execOp a.eval o).run P w = res at *
  cases res with
  | halt x w' => cases x <;> exact hg.elim
  | ok n w' =>
    cases n with
    | value x => exact hn _ _ hg
    | skip => exact hn _ _ hg
    | enter f args => exact Calls.mono hg (fun en w'' ⟨x, he, hr⟩ => by subst he; exact hn _ _ hr)
    | _ => exact hg.elim
theorem opers_ok {all : List Oper} (hih : SoundRn P ih) (hpr : SoundPr P pr) : ∀ (l pre : List Oper), all = pre ++ l → ∀ t h s, (opers all P pr ih l t h s).good → ∀ e a w, AR D e t a → Sim e h w → Free e s →
    ∀ Q : Exit → Act → World → Prop, (∀ x a' w', LR D (opers all P pr ih l t h s) e s h w x a' w' → Q x a' w') → wpOps P all.toArray Q (List.range' pre.length l.length) a w
  | [], pre, hall, t, h, s, hr, e, a, w, ha, hs, hf, Q, hQ => hQ _ _ _ ⟨rfl, e, ha, Post.refl hs hf⟩
  | o :: l, pre, hall, t, h, s, hr, e, a, w, ha, hs, hf, Q, hQ => by
    have hget : all.toArray[pre.length]? = some o := by rw [hall]; simp
    have hall' : all = (pre ++ [o]) ++ l := by rw [hall]; simp
    have e0 : ∀ t h s, opers all P pr ih (o :: l) t h s = bif want all t o.guard then opF o.op P pr ih t h s (fun v h s => opers all P pr ih l (putT o.dst t v) h s) else opers all P pr ih l (putT o.dst t un) h s := fun _ _ _ => rfl
    rw [e0] at hr hQ
    have hrange : List.range' pre.length (o :: l).length = pre.length :: List.range' (pre ++ [o]).length l.length := by
      simp [List.range'_succ]
    rw [hrange]
    unfold wpOps
    rw [hget]
    simp only
    rw [want_ok (all := all) ha.tr]
    cases hw : want all t o.guard with
    | true =>
      rw [hw] at hr hQ
      simp only [cond_true, if_true] at hr hQ ⊢
      obtain ⟨v, h', s', g1, g2⟩ := opF_ok (o := o) rfl hr hih hpr ha hs hf
      left
      refine wp_of_gives g2 (fun x w' hx => ?_)
      obtain ⟨e', hv, hp⟩ := hx
      rw [← g1] at hr hQ
      exact opers_ok hih hpr l (pre ++ [o]) hall' (putT o.dst t v) h' s' hr e' (a.put o.dst x) w' ((ha.mono hp.le).put hv) hp.sim hp.free Q (fun x a' w' q => hQ _ _ _ (LR.trans hp q))
    | false =>
      rw [hw] at hr hQ
      simp only [cond_false, if_false, Bool.false_eq_true] at hr hQ ⊢
      exact opers_ok hih hpr l (pre ++ [o]) hall' (putT o.dst t un) h s hr e (a.put o.dst undef) w (ha.put undef_VR) hs hf Q hQ
/-- The text's order. -/
theorem region_ok {id : Nat} {ops : Array Oper} (hih : SoundRn P ih) (hpr : SoundPr P pr) (hr : (opers ops.toList P pr ih ops.toList t h s).good) (ha : AR D e t a) (hs : Sim e h w) (hf : Free e s) :
    (Code.region id ops false).wp P (LR D (opers ops.toList P pr ih ops.toList t h s) e s h w) a w := by
  refine wp_region ?_
  have := opers_ok (all := ops.toList) hih hpr ops.toList [] rfl t h s hr e a w ha hs hf _ (fun _ _ _ q => q)
  simpa [List.range_eq_range'] using this
end Go.Ev
