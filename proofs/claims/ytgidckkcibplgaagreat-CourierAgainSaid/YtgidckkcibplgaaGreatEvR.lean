/- An evaluator of the model's code, eighteenth part: regions in the text's order. -/
import Derived.Test.YtgidckkcibplgaaGreatEvQ
import Derived.CallsIn
import Derived.RangeFuncIn
import Derived.RangeFuncCalls
import Derived.TacticsIn
set_option linter.unusedVariables false
set_option linter.unusedSimpArgs false
namespace Go.Ev
variable {D : List Deferred}
variable {P : Program} {pr : Prims} {ih : Rn} {e : Env} {t : T V} {h : H} {s : Nat} {w : World} {a : Act} {r : RO} {k : K} {o : Oper}
theorem LR.trans {e1 : Env} {s1 : Nat} {h1 : H} {w1 : World} (p : Post e s h w e1 s1 h1 w1) : ∀ {r : RO} {x : Exit} {a' : Act} {w' : World}, LR D r e1 s1 h1 w1 x a' w' → LR D r e s h w x a' w'
  | .norm .., _, _, _, q => by obtain ⟨g1, e', g2, g3⟩ := q; exact ⟨g1, e', g2, p.trans g3⟩
  | .exit .., _, _, _, q => by obtain ⟨g1, e', g2, g3⟩ := q; exact ⟨g1, e', g2, p.trans g3⟩
  | .ret .., _, _, _, q => by obtain ⟨g1, e', g2, g3⟩ := q; exact ⟨g1, e', g2, p.trans g3⟩
  | .err _, _, _, _, q => q
  | .or p1 p2, _, _, _, q => q.imp (LR.trans p) (LR.trans p)
theorem want_ok {all : List Oper} (ha : TR e t a.tmps) : Region.wanted o (yielded all.toArray a.tmps) = want all t o.guard := by
  unfold Region.wanted want
  cases hg : o.guard with
  | none => rfl
  | some p =>
    obtain ⟨j, b⟩ := p
    simp only
    unfold yielded
    have hj : all.toArray[j]? = all[j]? := by simp
    rw [hj]
    cases hd : all.drop j with
    | nil =>
      have : all[j]? = none := by
        rw [List.getElem?_eq_none_iff]
        have := congrArg List.length hd
        simp at this
        omega
      rw [this]; rfl
    | cons q rest =>
      have : all[j]? = some q := by
        have := congrArg (fun l => l[0]?) hd
        simpa using this
      rw [this]
      simp only [Option.bind_some]
      cases hq : q.dst with
      | none => rfl
      | some d =>
        simp only [Option.bind_some]
        have hv := ha.val d
        cases hx : a.tmps[d]? with
        | none =>
          have : a.tmps.getD d undef = undef := by simp [Array.getD_eq_getD_getElem?, hx]
          rw [this] at hv
          cases hgt : t.get un d with
          | bool c => rw [hgt] at hv; cases hv
          | _ => rfl
        | some x =>
          have : a.tmps.getD d undef = x := by simp [Array.getD_eq_getD_getElem?, hx]
          rw [this] at hv
          cases hgt : t.get un d with
          | bool c =>
            rw [hgt] at hv
            cases hv
            cases c <;> cases b <;> rfl
          | opq =>
            rw [hgt] at hv
            cases hv with
            | opq _ hb => cases x <;> first | rfl | exact absurd rfl (hb _)
          | _ =>
            rw [hgt] at hv
            cases hv <;> rfl
/-- A fence that forbids nothing. -/
structure FW (P : Program) (F : Fence) : Prop where
  fn : ∀ f, F.fn f
  dep : F.depth = none
  calls : ∀ {f args w R}, Calls P f args w R → CallsIn F 0 P f args w R
theorem FW.wide : FW P Fence.wide := ⟨fun _ => trivial, rfl, fun h => callsIn_wide.2 h⟩
theorem FW.round (l : Nat) : FW P (Fence.wide.inRound l) := ⟨fun _ => trivial, rfl, fun h => CallsIn.inRound l (callsIn_wide.2 h)⟩
/-- An operation, with all that may follow. -/
abbrev Wp1 (F : Fence) (P : Program) (o : Oper) (a : Act) (w : World) (R : Value → World → Prop) : Prop :=
  ∀ (next : Act → World → Prop) (Q : Exit → Act → World → Prop), (∀ x w', R x w' → next (a.put o.dst x) w') → o.wpIn F 0 P a w next Q
variable {F : Fence}
theorem wp1_of_gives {R : Value → World → Prop} (hF : FW P F) (hd : F.round = none ∨ ∀ c, o.op ≠ .defer c) (hg : Gives P (execOp a.eval o) w R) : Wp1 F P o a w R := fun next Q hn => by
  refine ⟨fun f _ => hF.fn f, ?_⟩
  have hsem : o.semAt F.round a.eval = execOp a.eval o := by
    rcases hd with hd | hd
    · rw [hd]; exact Oper.semAt_none _ _
    · cases hr : F.round with
      | none => exact Oper.semAt_none _ _
      | some l => exact Oper.semAt_some l _ _ hd
  rw [hsem]
  unfold Gives at hg
  generalize (execOp a.eval o).run P w = res at *
  cases res with
  | halt x w' => cases x <;> exact hg.elim
  | ok n w' =>
    cases n with
    | value x => exact hn _ _ hg
    | skip => exact hn _ _ hg
    | enter f args => exact ⟨fun h => (by rw [hF.dep] at h; cases h), hF.calls (Calls.mono hg (fun en w'' ⟨x, he, hr⟩ => by subst he; exact hn _ _ hr))⟩
    | _ => exact hg.elim
/-- What is asked of rounds. -/
def YlOk (F : Fence) (P : Program) (yl : Nat → List V → H → Nat → K → RO) : Prop := ∀ b args h s k, (yl b args h s k).good → ∀ e w xs, VRs e args xs → Sim e h w → Free e s → ∀ n sh sz, e b = some ⟨n, sh, sz⟩ →
  F.round = none ∧ ∃ fn tm as bd, (Instr.yield n ⟨xs⟩).run P w = .ok (.round n fn tm as bd) w ∧ RoundIn F 0 P n fn tm as bd w (fun en w' => ∃ x, en = .returned x ∧ GoodK k (yl b args h s k) e s h w x w')
theorem noYl_ok : YlOk F P noYl := fun b args h s k hr => hr.elim
theorem opers1_ok {yl : Nat → List V → H → Nat → K → RO} (hF : FW P F) (hyl : YlOk F P yl) (hih : SoundRn P ih) (hpr : SoundPr P pr) (hd : F.round = none ∨ ∀ c, o.op ≠ .defer c) (hk : opers1 yl o P pr ih t h s k = r) (hr : r.good) (ha : AR D e t a) (hs : Sim e h w) (hf : Free e s) :
    Wp1 F P o a w (GoodK k r e s h w) := by
  unfold opers1 at hk
  split at hk
  · rename_i op ty x y yt ho
    obtain ⟨v, hk, hv⟩ := opnd_ok (a := a) hk hr ha
    obtain ⟨u, hk, hu⟩ := opnd_ok (a := a) hk hr ha
    cases hub : ubin op v u with
    | true =>
      rw [hub] at hk
      dsimp only at hk
      obtain ⟨b, hb⟩ := ubin_ok (P := P) (w := w) (ty := ty) (xo := x) (yo := y) hub hv hu
      refine wp1_of_gives hF hd (gives_value (x := .bool b) (w' := w) ?_ ?_)
      · simp only [execOp, ho]; exact run_v hb
      · subst hk
        cases b with
        | true => exact ⟨.bool true, h, s, .left (.refl _), e, .bool _, Post.refl hs hf⟩
        | false => exact ⟨.bool false, h, s, .right (.refl _), e, .bool _, Post.refl hs hf⟩
    | false =>
      rw [hub] at hk
      dsimp only at hk
      obtain ⟨z, zv, g1, g2, g3⟩ := vbin_ok (w := w) (xo := x) (yo := y) hk hr hv hu
      refine wp1_of_gives hF hd (gives_value (x := zv) (w' := w) ?_ ⟨z, h, s, g1 ▸ .refl _, e, g2, Post.refl hs hf⟩)
      simp only [execOp, ho]; exact run_v g3
  · rename_i c ho
    split at hk
    · rename_i x hcal
      obtain ⟨fv, hk, hfv⟩ := opnd_ok (a := a) hk hr ha
      split at hk
      · rename_i b
        obtain ⟨args, hk, hargs⟩ := opnds_ok (a := a) hk hr ha
        generalize hc : a.eval x = cv at hfv
        cases hfv with
        | @yld _ n sh sz hb =>
          subst hk
          obtain ⟨hro, fn, tm, as, bd, k1, k2⟩ := hyl b args h s k hr e w _ hargs hs hf _ _ _ hb
          intro next Q hn
          refine ⟨fun f _ => hF.fn f, ?_⟩
          rw [hro, Oper.semAt_none]
          have hmap : (c.args.map a.eval) = ⟨c.args.toList.map a.eval⟩ := by apply Array.ext'; simp
          have hx : (execOp a.eval o).run P w = .ok (.round n fn tm as bd) w := by
            simp only [execOp, ho, resolve, hcal, hc, Deferred.ofValue, Sem.run_bind, Sem.run_pure, Result.andThen, invoke, hmap]
            have e1 : (#[] : Array Value) ++ (⟨c.args.toList.map a.eval⟩ : Array Value) = ⟨c.args.toList.map a.eval⟩ := by apply Array.ext'; simp
            rw [e1]
            exact k1
          rw [hx]
          exact ⟨fun h => (by rw [hF.dep] at h; cases h), RoundIn.mono k2 (fun en w' ⟨x, he, hg⟩ => by subst he; exact hn _ _ hg)⟩
      · exact wp1_of_gives hF hd (oCall_ok hk hr hih hpr ha hs hf ho)
    · exact wp1_of_gives hF hd (oCall_ok hk hr hih hpr ha hs hf ho)
  · exact wp1_of_gives hF hd (opF_ok hk hr hih hpr ha hs hf)
theorem opersY_ok {yl : Nat → List V → H → Nat → K → RO} {all : List Oper} (hF : FW P F) (hyl : YlOk F P yl) (hih : SoundRn P ih) (hpr : SoundPr P pr) (hd : F.round = none ∨ ∀ o ∈ all, ∀ c, o.op ≠ .defer c) : ∀ (l pre : List Oper), all = pre ++ l → ∀ t h s, (opersY yl all P pr ih l t h s).good → ∀ e a w, AR D e t a → Sim e h w → Free e s →
    ∀ Q : Exit → Act → World → Prop, (∀ x a' w', LR D (opersY yl all P pr ih l t h s) e s h w x a' w' → Q x a' w') → wpOpsIn F 0 P all.toArray Q (List.range' pre.length l.length) a w
  | [], pre, hall, t, h, s, hr, e, a, w, ha, hs, hf, Q, hQ => hQ _ _ _ ⟨rfl, e, ha, Post.refl hs hf⟩
  | o :: l, pre, hall, t, h, s, hr, e, a, w, ha, hs, hf, Q, hQ => by
    have hget : all.toArray[pre.length]? = some o := by rw [hall]; simp
    have hall' : all = (pre ++ [o]) ++ l := by rw [hall]; simp
    have e0 : ∀ t h s, opersY yl all P pr ih (o :: l) t h s = bif want all t o.guard then opers1 yl o P pr ih t h s (fun v h s => opersY yl all P pr ih l (putT o.dst t v) h s) else opersY yl all P pr ih l (putT o.dst t un) h s := fun _ _ _ => rfl
    rw [e0] at hr hQ
    have hrange : List.range' pre.length (o :: l).length = pre.length :: List.range' (pre ++ [o]).length l.length := by
      simp [List.range'_succ]
    rw [hrange]
    unfold wpOpsIn
    rw [hget]
    simp only
    rw [want_ok (all := all) ha.tr]
    cases hw : want all t o.guard with
    | true =>
      rw [hw] at hr hQ
      simp only [cond_true, if_true] at hr hQ ⊢
      have hd' : F.round = none ∨ ∀ c, o.op ≠ .defer c := hd.imp id (fun h => h o (by rw [hall]; simp))
      refine opers1_ok (o := o) hF hyl hih hpr hd' rfl hr ha hs hf _ _ (fun x w' hx => ?_)
      obtain ⟨v, h', s', hsub, e', hv, hp⟩ := hx
      have hr' := hsub.good hr
      exact opersY_ok hF hyl hih hpr hd l (pre ++ [o]) hall' (putT o.dst t v) h' s' hr' e' (a.put o.dst x) w' ((ha.mono hp.le).put hv) hp.sim hp.free Q (fun x a' w' q => hQ _ _ _ (LR.sub hsub (LR.trans hp q)))
    | false =>
      rw [hw] at hr hQ
      simp only [cond_false, if_false, Bool.false_eq_true] at hr hQ ⊢
      exact ⟨fun f _ => hF.fn f, opersY_ok hF hyl hih hpr hd l (pre ++ [o]) hall' (putT o.dst t un) h s hr e (a.put o.dst undef) w (ha.put undef_VR) hs hf Q hQ⟩
/-- The text's order. -/
theorem regionY_ok {yl : Nat → List V → H → Nat → K → RO} {id : Nat} {ops : Array Oper} (hF : FW P F) (hyl : YlOk F P yl) (hih : SoundRn P ih) (hpr : SoundPr P pr) (hd : F.round = none ∨ ∀ o ∈ ops.toList, ∀ c, o.op ≠ .defer c) (hr : (opersY yl ops.toList P pr ih ops.toList t h s).good) (ha : AR D e t a) (hs : Sim e h w) (hf : Free e s) :
    (Code.region id ops false).wpIn F 0 P (LR D (opersY yl ops.toList P pr ih ops.toList t h s) e s h w) a w := by
  refine wpIn_region ?_
  have := opersY_ok (all := ops.toList) hF hyl hih hpr hd ops.toList [] rfl t h s hr e a w ha hs hf _ (fun _ _ _ q => q)
  simpa [List.range_eq_range'] using this
end Go.Ev
