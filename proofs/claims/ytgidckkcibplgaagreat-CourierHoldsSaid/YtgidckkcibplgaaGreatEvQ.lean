/- An evaluator of the model's code, seventeenth part: calls; every operation. An evaluator of the model's code, eighteenth part: regions in the text's order. -/
import Derived.Test.YtgidckkcibplgaaGreatEvO
import Derived.CallsIn
import Derived.RangeFuncIn
import Derived.RangeFuncCalls
import Derived.TacticsIn
set_option linter.unusedVariables false
set_option linter.unusedSimpArgs false
namespace Go.Ev
variable {D : List Deferred}
variable {P : Program} {pr : Prims} {ih : Rn} {e : Env} {t : T V} {h : H} {s : Nat} {w : World} {a : Act} {r : RO} {k : K} {o : Oper}
theorem enter_AR {args : List V} {xs : List Value} {n : Nat} (hx : VRs e args xs) (hn : args.length ≤ n) :
    AR [] e (T.puts args 0 (T.mk un (Nat.succ (Nat.log2 (Nat.succ n))) n)) { tmps := (⟨xs⟩ : Array Value) ++ Array.replicate (n - (⟨xs⟩ : Array Value).size) undef, defers := [] } := by
  have hl := hx.length
  have hlog : n < 2 ^ (Nat.succ (Nat.log2 (Nat.succ n))) := by
    have := @Nat.lt_log2_self (n + 1)
    rw [show Nat.succ n = n + 1 from rfl]; omega
  have hhas : ∀ i, (T.mk un (Nat.succ (Nat.log2 (Nat.succ n))) n).has i = true ↔ i < n := fun i => T.has_mk un _ n i hlog
  refine ⟨⟨fun i => ?_, fun i => ?_⟩, rfl⟩
  · rw [T.has_puts, hhas]; simp; omega
  · rw [T.get_puts un args 0 i _ (fun j hj => by rw [Nat.zero_add]; exact (hhas j).2 (by omega)), T.get_mk]
    by_cases hi : i < args.length
    · rw [if_pos (by omega)]
      obtain ⟨y, g1, g2⟩ := hx.get un i hi
      simp only [Nat.sub_zero]
      have : ((⟨xs⟩ : Array Value) ++ Array.replicate (n - (⟨xs⟩ : Array Value).size) undef).getD i undef = y := by
        rw [Array.getD_eq_getD_getElem?, Array.getElem?_append_left (by simp; omega)]
        simp [g1]
      rw [this]; exact g2
    · rw [if_neg (by omega)]
      have : ((⟨xs⟩ : Array Value) ++ Array.replicate (n - (⟨xs⟩ : Array Value).size) undef).getD i undef = undef := by
        rw [Array.getD_eq_getD_getElem?, Array.getElem?_append_right (by simp; omega), Array.getElem?_replicate]
        split <;> rfl
      rw [this]; exact undef_VR
theorem fnOf_ok {f : Nat} {c : Code} {n : Nat} {rs : List ResultVar} (h : fnOf P f = .fn c n rs) : ∃ fn, P.funcs[f]? = some fn ∧ fn.body = some c ∧ fn.ntmps = n ∧ fn.results.toList = rs ∧ ∀ xs w, (callFunc f xs).run P w = .ok (.enter f xs) w := by
  unfold fnOf at h
  split at h
  · rename_i fn hfn
    cases hn : (fn.name == "runtime.NumGoroutine") with
    | true => rw [hn] at h; cases h
    | false =>
      rw [hn] at h
      simp only [cond_false] at h
      split at h
      · rename_i c' hb
        injection h with h1 h2 h3
        subst h1 h2 h3
        refine ⟨fn, hfn, hb, rfl, rfl, fun xs w => ?_⟩
        have hn' : ¬ (fn.name = "runtime.NumGoroutine") := by
          intro h0
          rw [h0] at hn
          simp at hn
        simp [callFunc, Sem.run, hfn, hn', hb, program, Bind.bind, Sem.bind, Pure.pure]
      · cases h
  · cases h
theorem bnd_end {f g : T V → H → Nat → RO} {n : Nat} {q : RO} (hr : (q.bnd f (fun _ _ _ _ => .err n) g).good) {x : Exit} {a' : Act} {w' : World} (hq : LR D q e s h w x a' w') :
    ∃ t' h' s', ((x = .normal ∧ Sub (f t' h' s') (q.bnd f (fun _ _ _ _ => .err n) g)) ∨ (x = .ret ∧ Sub (g t' h' s') (q.bnd f (fun _ _ _ _ => .err n) g))) ∧ ∃ e', AR D e' t' a' ∧ Post e s h w e' s' h' w' := by
  obtain ⟨l, g1, g2, g3⟩ := hq.leaf
  have hs := g1.bnd f (fun _ _ _ _ => .err n) g
  cases l with
  | norm t' h' s' => exact ⟨t', h', s', .inl ⟨g3.1, hs⟩, g3.2⟩
  | ret t' h' s' => exact ⟨t', h', s', .inr ⟨g3.1, hs⟩, g3.2⟩
  | exit _ _ _ _ => exact (hs.good hr).elim
  | err _ => exact g3.elim
  | or _ _ => exact g2.elim
theorem callV_ok {f : Nat} {args : List V} (hk : callV f args P pr ih h s k = r) (hr : r.good) (hih : SoundRn P ih) (hpr : SoundPr P pr) : CallOk P f args s h k r := by
  unfold callV at hk
  split at hk
  · rename_i g hg
    subst hk
    exact hpr f g hg args h s k hr
  · split at hk
    · rename_i c n rs hfn
      obtain ⟨fn, g1, g2, g3, g4, g5⟩ := fnOf_ok hfn
      obtain ⟨hn, hk⟩ := bif_ok hk (by simp [RO.good]) hr
      have hn : args.length ≤ n := by rw [← len_eq]; exact Nat.le_of_ble_eq_true hn
      subst hk
      have body := hih.wp c (T.puts args 0 (T.mk un (Nat.succ (Nat.log2 (Nat.succ n))) n)) h s (RO.good_bnd hr)
      intro e w xs hx hs hf
      refine ⟨g5 _ _, calls_of_wp g1 g2 ?_⟩
      rw [g3]
      refine wp_mono (body [] e _ w (enter_AR hx hn) hs hf) (fun x a' w' hq => ?_)
      obtain ⟨t', h', s', hx', e', ha, hp⟩ := bnd_end hr hq
      rcases hx' with ⟨rfl, hsub⟩ | ⟨rfl, hsub⟩
      all_goals
        have hgood := hsub.good hr
        change (resV P t' h' rs (fun vs => k (tupV vs) h' s')).good at hgood
        change Sub (resV P t' h' rs (fun vs => k (tupV vs) h' s')) _ at hsub
        obtain ⟨vs, k1, k2⟩ := resV_val hgood
        rw [k1] at hsub
        obtain ⟨ys, m1, m2⟩ := k2 e' w' a'.tmps ha.tr hp.sim
        exact ⟨ha.nodef, _, run_results (by rw [g4]; exact m2), _, rfl, tupV vs, h', s', hsub, e', tup_VR m1, hp⟩
    · subst hk; cases hr
theorem run_callMethod {u : TypeId} {nm : String} {f : Nat} (hm : methV P u nm = some f) (x : Value) (args : Array Value) (hg : (callFunc f (#[x] ++ args)).run P w = .ok (.enter f (#[x] ++ args)) w) :
    (callMethod (.iface u x) nm args).run P w = .ok (.enter f (#[x] ++ args)) w := by
  have hn := run_method' (P := P) (w := w) (n := P.types.size + 99) hm x
  simp only [Nat.add_assoc, Nat.reduceAdd] at hn
  simp [callMethod, Made.depth, hn, Result.andThen]
  simpa using hg
/-- What the evaluator promises of an operation, before it knows where it is. -/
theorem oCall_ok {c : Call} (hk : oCall c P pr ih t h s k = r) (hr : r.good) (hih : SoundRn P ih) (hpr : SoundPr P pr) (ha : AR D e t a) (hs : Sim e h w) (hf : Free e s) (ho : o.op = .call c) : OpOkK P e s h w a o k r := by
  obtain ⟨args, hk, hargs⟩ := opnds_ok (a := a) hk hr ha
  have hmap : (c.args.map a.eval) = ⟨c.args.toList.map a.eval⟩ := by apply Array.ext'; simp
  have fin : ∀ {f : Nat} {xs : List Value}, (execOp a.eval o).run P w = .ok (.enter f ⟨xs⟩) w → Calls P f ⟨xs⟩ w (fun en w' => ∃ x, en = .returned x ∧ GoodK k r e s h w x w') → OpOkK P e s h w a o k r := fun h1 h2 => by
    unfold OpOkK Gives
    rw [h1]
    exact h2
  split at hk
  · rename_i b hcal
    obtain ⟨v, h', s', g1, z, w', g2, g3⟩ := builtinV_ok (ty := o.type) (cs := c.args.map fun | .const _ => true | _ => false) hk hr hs hf hargs
    refine OpOk.toK ⟨v, h', s', g1, gives_value (x := z) (w' := w') ?_ g3⟩
    simp only [execOp, ho, resolve, hcal, Sem.run_bind, Sem.run_pure, Result.andThen, invoke, hmap]
    exact g2
  · rename_i x hcal
    obtain ⟨fv, hk, hfv⟩ := opnd_ok (a := a) hk hr ha
    generalize hc : a.eval x = cv at hfv
    split at hk
    · rename_i f caps
      cases hfv with
      | fn hcaps =>
        rename_i cs
        obtain ⟨g3, g4⟩ := callV_ok hk hr hih hpr e w _ (hargs.append hcaps) hs hf
        refine fin ?_ g4
        simp only [execOp, ho, resolve, hcal, hc, Deferred.ofValue, Sem.run_bind, Sem.run_pure, Result.andThen, invoke, hmap]
        have e1 : (#[] : Array Value) ++ (⟨c.args.toList.map a.eval⟩ : Array Value) ++ (⟨cs⟩ : Array Value) = ⟨c.args.toList.map a.eval ++ cs⟩ := by apply Array.ext'; simp
        rw [e1]
        exact g3
    · rename_i f y
      cases hfv with
      | bfn hv =>
        rename_i x1
        obtain ⟨g3, g4⟩ := callV_ok hk hr hih hpr e w _ (VRs.cons hv hargs) hs hf
        refine fin ?_ g4
        have e0 : (⟨x1 :: List.map a.eval c.args.toList⟩ : Array Value) = (⟨[x1]⟩ : Array Value) ++ (⟨List.map a.eval c.args.toList⟩ : Array Value) := by apply Array.ext'; simp
        rw [e0] at g3 ⊢
        simp only [execOp, ho, resolve, hcal, hc, Deferred.ofValue, Sem.run_bind, Sem.run_pure, Result.andThen, invoke, hmap]
        simpa using g3
    · rename_i nm u y
      cases hm : methV P u nm with
      | none => rw [hm] at hk; subst hk; cases hr
      | some f =>
        rw [hm] at hk
        cases hfv with
        | mfn hv => cases hv with
          | ifc hv =>
            rename_i x1
            obtain ⟨g3, g4⟩ := callV_ok hk hr hih hpr e w _ (VRs.cons hv hargs) hs hf
            refine fin ?_ g4
            have e0 : (⟨x1 :: List.map a.eval c.args.toList⟩ : Array Value) = #[x1] ++ (⟨List.map a.eval c.args.toList⟩ : Array Value) := by apply Array.ext'; simp
            rw [e0] at g3 ⊢
            have g5 := run_callMethod (P := P) (w := w) hm x1 _ g3
            simp only [execOp, ho, resolve, hcal, hc, Deferred.ofValue, Sem.run_bind, Sem.run_pure, Result.andThen, invoke, hmap]
            have e1 : ((⟨[Value.iface u x1]⟩ : Array Value) ++ (⟨c.args.toList.map a.eval⟩ : Array Value))[0]? = some (Value.iface u x1) := by simp
            have e2 : ((⟨[Value.iface u x1]⟩ : Array Value) ++ (⟨c.args.toList.map a.eval⟩ : Array Value)).extract 1 ((⟨[Value.iface u x1]⟩ : Array Value) ++ (⟨c.args.toList.map a.eval⟩ : Array Value)).size = ⟨c.args.toList.map a.eval⟩ := by apply Array.ext'; simp; try exact List.take_of_length_le (by simp)
            rw [e1]
            simp only [e2]
            exact g5
    · subst hk; cases hr
  · rename_i x nm hcal
    obtain ⟨fv, hk, hfv⟩ := opnd_ok (a := a) hk hr ha
    generalize hc : a.eval x = cv at hfv
    split at hk
    · rename_i u y
      cases hm : methV P u nm with
      | none => rw [hm] at hk; subst hk; cases hr
      | some f =>
        rw [hm] at hk
        cases hfv with
        | ifc hv =>
          rename_i x1
          obtain ⟨g3, g4⟩ := callV_ok hk hr hih hpr e w _ (VRs.cons hv hargs) hs hf
          refine fin ?_ g4
          have e0 : (⟨x1 :: List.map a.eval c.args.toList⟩ : Array Value) = #[x1] ++ (⟨List.map a.eval c.args.toList⟩ : Array Value) := by apply Array.ext'; simp
          rw [e0] at g3 ⊢
          have g5 := run_callMethod (P := P) (w := w) hm x1 _ g3
          simp only [execOp, ho, resolve, hcal, hc, Sem.run_bind, Sem.run_pure, Result.andThen, invoke, hmap]
          have e1 : (#[Value.iface u x1] ++ (⟨c.args.toList.map a.eval⟩ : Array Value))[0]? = some (Value.iface u x1) := by simp
          have e2 : (#[Value.iface u x1] ++ (⟨c.args.toList.map a.eval⟩ : Array Value)).extract 1 (#[Value.iface u x1] ++ (⟨c.args.toList.map a.eval⟩ : Array Value)).size = ⟨c.args.toList.map a.eval⟩ := by apply Array.ext'; simp; try exact List.take_of_length_le (by simp)
          rw [e1]
          simp only [e2]
          exact g5
    · subst hk; cases hr
theorem opF_ok (hk : opF o.op P pr ih t h s k = r) (hr : r.good) (hih : SoundRn P ih) (hpr : SoundPr P pr) (ha : AR D e t a) (hs : Sim e h w) (hf : Free e s) : OpOkK P e s h w a o k r := by
  cases ho : o.op with
  | move x => rw [ho] at hk; exact OpOk.toK ((oMove_pure (pr := pr) (ih := ih) hk hr ha hs (.inl ho)).ok hs hf)
  | assign x => rw [ho] at hk; exact OpOk.toK ((oMove_pure (pr := pr) (ih := ih) hk hr ha hs (.inr ho)).ok hs hf)
  | pick c x y => rw [ho] at hk; exact OpOk.toK ((oPick_pure (pr := pr) (ih := ih) hk hr ha hs ho).ok hs hf)
  | alloc t0 => rw [ho] at hk; exact OpOk.toK (oAlloc_ok (pr := pr) (ih := ih) hk hr ha hs hf ho)
  | box t0 x => rw [ho] at hk; exact OpOk.toK (oBox_ok (pr := pr) (ih := ih) hk hr ha hs hf ho)
  | build t0 ps => rw [ho] at hk; exact OpOk.toK ((oBuild_pure (pr := pr) (ih := ih) hk hr ha hs ho).ok hs hf)
  | buildSlice t0 n ps => rw [ho] at hk; exact OpOk.toK (oBuildSlice_ok (pr := pr) (ih := ih) hk hr ha hs hf ho)
  | load t0 x => rw [ho] at hk; exact OpOk.toK ((oLoad_pure (pr := pr) (ih := ih) hk hr ha hs ho).ok hs hf)
  | store t0 x y => rw [ho] at hk; exact OpOk.toK (oStore_ok (pr := pr) (ih := ih) hk hr ha hs hf ho)
  | nilCheck x => rw [ho] at hk; exact OpOk.toK ((oNilCheck_pure (pr := pr) (ih := ih) hk hr ha hs ho).ok hs hf)
  | binOp op t0 x y u => rw [ho] at hk; exact OpOk.toK ((oBin_pure (pr := pr) (ih := ih) hk hr ha hs ho).ok hs hf)
  | unOp op t0 x => rw [ho] at hk; exact OpOk.toK ((oUn_pure (pr := pr) (ih := ih) hk hr ha hs ho).ok hs hf)
  | convert t0 t1 x =>
    rw [ho] at hk
    change (bif Nat.beq t0 t1 then oMark t0 x else oConvert t0 t1 x) P pr ih t h s k = r at hk
    cases hq : Nat.beq t0 t1 with
    | true => rw [hq] at hk; exact OpOk.toK (oMark_ok (pr := pr) (ih := ih) hk hr ha hs hf ho (Nat.eq_of_beq_eq_true hq))
    | false => rw [hq] at hk; exact OpOk.toK ((oConvert_pure (pr := pr) (ih := ih) hk hr ha hs ho).ok hs hf)
  | makeInterface t0 x => rw [ho] at hk; exact OpOk.toK ((oMakeIface_pure (pr := pr) (ih := ih) hk hr ha hs ho).ok hs hf)
  | makeFunc f l m => rw [ho] at hk; exact OpOk.toK ((oMakeFunc_pure (pr := pr) (ih := ih) hk hr ha hs ho).ok hs hf)
  | makeMap t0 x => rw [ho] at hk; exact OpOk.toK (oMakeMap_ok (pr := pr) (ih := ih) hk hr ha hs hf ho)
  | makeSlice t0 x y => rw [ho] at hk; exact OpOk.toK (oMakeSlice_ok (pr := pr) (ih := ih) hk hr ha hs hf ho)
  | slice t0 x l m n => rw [ho] at hk; exact OpOk.toK ((oSlice_pure (pr := pr) (ih := ih) hk hr ha hs ho).ok hs hf)
  | fieldAddr t0 x i => rw [ho] at hk; exact OpOk.toK ((oFieldAddr_pure (pr := pr) (ih := ih) hk hr ha hs ho).ok hs hf)
  | field t0 x i => rw [ho] at hk; exact OpOk.toK ((oField_pure (pr := pr) (ih := ih) hk hr ha hs ho).ok hs hf)
  | indexAddr t0 x i => rw [ho] at hk; exact OpOk.toK ((oIndexAddr_pure (pr := pr) (ih := ih) hk hr ha hs ho).ok hs hf)
  | index t0 x i => rw [ho] at hk; exact OpOk.toK ((oIndex_pure (pr := pr) (ih := ih) hk hr ha hs ho).ok hs hf)
  | lookup t0 x i b => rw [ho] at hk; exact OpOk.toK ((oLookup_pure (pr := pr) (ih := ih) hk hr ha hs ho).ok hs hf)
  | mapUpdate t0 m i x => rw [ho] at hk; exact OpOk.toK (oMapUpdate_ok (pr := pr) (ih := ih) hk hr ha hs hf (.inl ho))
  | range t0 x => rw [ho] at hk; exact OpOk.toK (oRange_ok (pr := pr) (ih := ih) hk hr ha hs hf ho)
  | next x b => rw [ho] at hk; exact OpOk.toK (oNext_ok (pr := pr) (ih := ih) hk hr ha hs hf ho)
  | entry x => rw [ho] at hk; exact OpOk.toK ((oEntry_pure (pr := pr) (ih := ih) hk hr ha hs ho).ok hs hf)
  | extract x i => rw [ho] at hk; exact OpOk.toK ((oExtract_pure (pr := pr) (ih := ih) hk hr ha hs ho).ok hs hf)
  | call c => rw [ho] at hk; exact oCall_ok (pr := pr) (ih := ih) hk hr hih hpr ha hs hf ho
  | _ => rw [ho] at hk; change RO.err 130 = r at hk; subst hk; cases hr
end Go.Ev
namespace Go.Ev
variable {D : List Deferred}
variable {P : Program} {pr : Prims} {ih : Rn} {e : Env} {t : T V} {h : H} {s : Nat} {w : World} {a : Act} {r : RO} {k : K} {o : Oper}
theorem LR.trans {e1 : Env} {s1 : Nat} {h1 : H} {w1 : World} (p : Post e s h w e1 s1 h1 w1) : ∀ {r : RO} {x : Exit} {a' : Act} {w' : World}, LR D r e1 s1 h1 w1 x a' w' → LR D r e s h w x a' w'
  | .norm .., _, _, _, q => by obtain ⟨g1, e', g2, g3⟩ := q; exact ⟨g1, e', g2, p.trans g3⟩
  | .exit .., _, _, _, q => by obtain ⟨g1, e', g2, g3⟩ := q; exact ⟨g1, e', g2, p.trans g3⟩
  | .ret .., _, _, _, q => by obtain ⟨g1, e', g2, g3⟩ := q; exact ⟨g1, e', g2, p.trans g3⟩
  | .err _, _, _, _, q => q
  | .or p1 p2, _, _, _, q => q.imp (LR.trans p) (LR.trans p)
theorem want_ok {all : List Oper} (ha : TR e t a.tmps) : Region.wanted o (yielded all.toArray a.tmps) = want all t o.guard := by
  unfold Region.wanted want
  cases hg : o.guard with
  | none => rfl
  | some p =>
    obtain ⟨j, b⟩ := p
    simp only
    unfold yielded
    have hj : all.toArray[j]? = all[j]? := by simp
    rw [hj]
    cases hd : all.drop j with
    | nil =>
      have : all[j]? = none := by
        rw [List.getElem?_eq_none_iff]
        have := congrArg List.length hd
        simp at this
        omega
      rw [this]; rfl
    | cons q rest =>
      have : all[j]? = some q := by
        have := congrArg (fun l => l[0]?) hd
        simpa using this
      rw [this]
      simp only [Option.bind_some]
      cases hq : q.dst with
      | none => rfl
      | some d =>
        simp only [Option.bind_some]
        have hv := ha.val d
        cases hx : a.tmps[d]? with
        | none =>
          have : a.tmps.getD d undef = undef := by simp [Array.getD_eq_getD_getElem?, hx]
          rw [this] at hv
          cases hgt : t.get un d with
          | bool c => rw [hgt] at hv; cases hv
          | _ => rfl
        | some x =>
          have : a.tmps.getD d undef = x := by simp [Array.getD_eq_getD_getElem?, hx]
          rw [this] at hv
          cases hgt : t.get un d with
          | bool c =>
            rw [hgt] at hv
            cases hv
            cases c <;> cases b <;> rfl
          | opq =>
            rw [hgt] at hv
            cases hv with
            | opq _ hb => cases x <;> first | rfl | exact absurd rfl (hb _)
          | _ =>
            rw [hgt] at hv
            cases hv <;> rfl
/-- A fence that forbids nothing. -/
structure FW (P : Program) (F : Fence) : Prop where
  fn : ∀ f, F.fn f
  dep : F.depth = none
  calls : ∀ {f args w R}, Calls P f args w R → CallsIn F 0 P f args w R
theorem FW.wide : FW P Fence.wide := ⟨fun _ => trivial, rfl, fun h => callsIn_wide.2 h⟩
theorem FW.round (l : Nat) : FW P (Fence.wide.inRound l) := ⟨fun _ => trivial, rfl, fun h => CallsIn.inRound l (callsIn_wide.2 h)⟩
/-- An operation, with all that may follow. -/
abbrev Wp1 (F : Fence) (P : Program) (o : Oper) (a : Act) (w : World) (R : Value → World → Prop) : Prop :=
  ∀ (next : Act → World → Prop) (Q : Exit → Act → World → Prop), (∀ x w', R x w' → next (a.put o.dst x) w') → o.wpIn F 0 P a w next Q
variable {F : Fence}
theorem wp1_of_gives {R : Value → World → Prop} (hF : FW P F) (hd : F.round = none ∨ ∀ c, o.op ≠ .defer c) (hg : Gives P (execOp a.eval o) w R) : Wp1 F P o a w R := fun next Q hn => by
  refine ⟨fun f _ => hF.fn f, ?_⟩
  have hsem : o.semAt F.round a.eval = execOp a.eval o := by
    rcases hd with hd | hd
    · rw [hd]; exact Oper.semAt_none _ _
    · cases hr : F.round with
      | none => exact Oper.semAt_none _ _
      | some l => exact Oper.semAt_some l _ _ hd
  rw [hsem]
  unfold Gives at hg
  generalize (execOp a.eval o).run P w = res at *
  cases res with
  | halt x w' => cases x <;> exact hg.elim
  | ok n w' =>
    cases n with
    | value x => exact hn _ _ hg
    | skip => exact hn _ _ hg
    | enter f args => exact ⟨fun h => (by rw [hF.dep] at h; cases h), hF.calls (Calls.mono hg (fun en w'' ⟨x, he, hr⟩ => by subst he; exact hn _ _ hr))⟩
    | _ => exact hg.elim
/-- What is asked of rounds. -/
def YlOk (F : Fence) (P : Program) (yl : Nat → List V → H → Nat → K → RO) : Prop := ∀ b args h s k, (yl b args h s k).good → ∀ e w xs, VRs e args xs → Sim e h w → Free e s → ∀ n sh sz, e b = some ⟨n, sh, sz⟩ →
  F.round = none ∧ ∃ fn tm as bd, (Instr.yield n ⟨xs⟩).run P w = .ok (.round n fn tm as bd) w ∧ RoundIn F 0 P n fn tm as bd w (fun en w' => ∃ x, en = .returned x ∧ GoodK k (yl b args h s k) e s h w x w')
theorem noYl_ok : YlOk F P noYl := fun b args h s k hr => hr.elim
theorem opers1_ok {yl : Nat → List V → H → Nat → K → RO} (hF : FW P F) (hyl : YlOk F P yl) (hih : SoundRn P ih) (hpr : SoundPr P pr) (hd : F.round = none ∨ ∀ c, o.op ≠ .defer c) (hk : opers1 yl o P pr ih t h s k = r) (hr : r.good) (ha : AR D e t a) (hs : Sim e h w) (hf : Free e s) :
    Wp1 F P o a w (GoodK k r e s h w) := by
  unfold opers1 at hk
  split at hk
  · rename_i op ty x y yt ho
    obtain ⟨v, hk, hv⟩ := opnd_ok (a := a) hk hr ha
    obtain ⟨u, hk, hu⟩ := opnd_ok (a := a) hk hr ha
    cases hub : ubin op v u with
    | true =>
      rw [hub] at hk
      dsimp only at hk
      obtain ⟨b, hb⟩ := ubin_ok (P := P) (w := w) (ty := ty) (xo := x) (yo := y) hub hv hu
      refine wp1_of_gives hF hd (gives_value (x := .bool b) (w' := w) ?_ ?_)
      · simp only [execOp, ho]; exact run_v hb
      · subst hk
        cases b with
        | true => exact ⟨.bool true, h, s, .left (.refl _), e, .bool _, Post.refl hs hf⟩
        | false => exact ⟨.bool false, h, s, .right (.refl _), e, .bool _, Post.refl hs hf⟩
    | false =>
      rw [hub] at hk
      dsimp only at hk
      obtain ⟨z, zv, g1, g2, g3⟩ := vbin_ok (w := w) (xo := x) (yo := y) hk hr hv hu
      refine wp1_of_gives hF hd (gives_value (x := zv) (w' := w) ?_ ⟨z, h, s, g1 ▸ .refl _, e, g2, Post.refl hs hf⟩)
      simp only [execOp, ho]; exact run_v g3
  · rename_i c ho
    split at hk
    · rename_i x hcal
      obtain ⟨fv, hk, hfv⟩ := opnd_ok (a := a) hk hr ha
      split at hk
      · rename_i b
        obtain ⟨args, hk, hargs⟩ := opnds_ok (a := a) hk hr ha
        generalize hc : a.eval x = cv at hfv
        cases hfv with
        | @yld _ n sh sz hb =>
          subst hk
          obtain ⟨hro, fn, tm, as, bd, k1, k2⟩ := hyl b args h s k hr e w _ hargs hs hf _ _ _ hb
          intro next Q hn
          refine ⟨fun f _ => hF.fn f, ?_⟩
          rw [hro, Oper.semAt_none]
          have hmap : (c.args.map a.eval) = ⟨c.args.toList.map a.eval⟩ := by apply Array.ext'; simp
          have hx : (execOp a.eval o).run P w = .ok (.round n fn tm as bd) w := by
            simp only [execOp, ho, resolve, hcal, hc, Deferred.ofValue, Sem.run_bind, Sem.run_pure, Result.andThen, invoke, hmap]
            have e1 : (#[] : Array Value) ++ (⟨c.args.toList.map a.eval⟩ : Array Value) = ⟨c.args.toList.map a.eval⟩ := by apply Array.ext'; simp
            rw [e1]
            exact k1
          rw [hx]
          exact ⟨fun h => (by rw [hF.dep] at h; cases h), RoundIn.mono k2 (fun en w' ⟨x, he, hg⟩ => by subst he; exact hn _ _ hg)⟩
      · exact wp1_of_gives hF hd (oCall_ok hk hr hih hpr ha hs hf ho)
    · exact wp1_of_gives hF hd (oCall_ok hk hr hih hpr ha hs hf ho)
  · exact wp1_of_gives hF hd (opF_ok hk hr hih hpr ha hs hf)
theorem opersY_ok {yl : Nat → List V → H → Nat → K → RO} {all : List Oper} (hF : FW P F) (hyl : YlOk F P yl) (hih : SoundRn P ih) (hpr : SoundPr P pr) (hd : F.round = none ∨ ∀ o ∈ all, ∀ c, o.op ≠ .defer c) : ∀ (l pre : List Oper), all = pre ++ l → ∀ t h s, (opersY yl all P pr ih l t h s).good → ∀ e a w, AR D e t a → Sim e h w → Free e s →
    ∀ Q : Exit → Act → World → Prop, (∀ x a' w', LR D (opersY yl all P pr ih l t h s) e s h w x a' w' → Q x a' w') → wpOpsIn F 0 P all.toArray Q (List.range' pre.length l.length) a w
  | [], pre, hall, t, h, s, hr, e, a, w, ha, hs, hf, Q, hQ => hQ _ _ _ ⟨rfl, e, ha, Post.refl hs hf⟩
  | o :: l, pre, hall, t, h, s, hr, e, a, w, ha, hs, hf, Q, hQ => by
    have hget : all.toArray[pre.length]? = some o := by rw [hall]; simp
    have hall' : all = (pre ++ [o]) ++ l := by rw [hall]; simp
    have e0 : ∀ t h s, opersY yl all P pr ih (o :: l) t h s = bif want all t o.guard then opers1 yl o P pr ih t h s (fun v h s => opersY yl all P pr ih l (putT o.dst t v) h s) else opersY yl all P pr ih l (putT o.dst t un) h s := fun _ _ _ => rfl
    rw [e0] at hr hQ
    have hrange : List.range' pre.length (o :: l).length = pre.length :: List.range' (pre ++ [o]).length l.length := by
      simp [List.range'_succ]
    rw [hrange]
    unfold wpOpsIn
    rw [hget]
    simp only
    rw [want_ok (all := all) ha.tr]
    cases hw : want all t o.guard with
    | true =>
      rw [hw] at hr hQ
      simp only [cond_true, if_true] at hr hQ ⊢
      have hd' : F.round = none ∨ ∀ c, o.op ≠ .defer c := hd.imp id (fun h => h o (by rw [hall]; simp))
      refine opers1_ok (o := o) hF hyl hih hpr hd' rfl hr ha hs hf _ _ (fun x w' hx => ?_)
      obtain ⟨v, h', s', hsub, e', hv, hp⟩ := hx
      have hr' := hsub.good hr
      exact opersY_ok hF hyl hih hpr hd l (pre ++ [o]) hall' (putT o.dst t v) h' s' hr' e' (a.put o.dst x) w' ((ha.mono hp.le).put hv) hp.sim hp.free Q (fun x a' w' q => hQ _ _ _ (LR.sub hsub (LR.trans hp q)))
    | false =>
      rw [hw] at hr hQ
      simp only [cond_false, if_false, Bool.false_eq_true] at hr hQ ⊢
      exact ⟨fun f _ => hF.fn f, opersY_ok hF hyl hih hpr hd l (pre ++ [o]) hall' (putT o.dst t un) h s hr e (a.put o.dst undef) w (ha.put undef_VR) hs hf Q hQ⟩
/-- The text's order. -/
theorem regionY_ok {yl : Nat → List V → H → Nat → K → RO} {id : Nat} {ops : Array Oper} (hF : FW P F) (hyl : YlOk F P yl) (hih : SoundRn P ih) (hpr : SoundPr P pr) (hd : F.round = none ∨ ∀ o ∈ ops.toList, ∀ c, o.op ≠ .defer c) (hr : (opersY yl ops.toList P pr ih ops.toList t h s).good) (ha : AR D e t a) (hs : Sim e h w) (hf : Free e s) :
    (Code.region id ops false).wpIn F 0 P (LR D (opersY yl ops.toList P pr ih ops.toList t h s) e s h w) a w := by
  refine wpIn_region ?_
  have := opersY_ok (all := ops.toList) hF hyl hih hpr hd ops.toList [] rfl t h s hr e a w ha hs hf _ (fun _ _ _ q => q)
  simpa [List.range_eq_range'] using this
end Go.Ev
