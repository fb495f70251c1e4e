/- An evaluator of the model's code, seventeenth part: calls; every operation. -/
import Derived.Test.YtafoihbkhgnecaaGreatEvP
set_option linter.unusedVariables false
set_option linter.unusedSimpArgs false
namespace Go.Ev
variable {D : List Deferred}
variable {P : Program} {pr : Prims} {ih : Rn} {e : Env} {t : T V} {h : H} {s : Nat} {w : World} {a : Act} {r : RO} {k : K} {o : Oper}
theorem enter_AR {args : List V} {xs : List Value} {n : Nat} (hx : VRs e args xs) (hn : args.length ≤ n) :
    AR [] e (T.puts args 0 (T.mk un (Nat.succ (Nat.log2 (Nat.succ n))) n)) { tmps := (⟨xs⟩ : Array Value) ++ Array.replicate (n - (⟨xs⟩ : Array Value).size) undef, defers := [] } := by
  have hl := hx.length
  have hlog : n < 2 ^ (Nat.succ (Nat.log2 (Nat.succ n))) := by
    have := @Nat.lt_log2_self (n + 1)
    rw [show Nat.succ n = n + 1 from rfl]; omega
  have hhas : ∀ i, (T.mk un (Nat.succ (Nat.log2 (Nat.succ n))) n).has i = true ↔ i < n := fun i => T.has_mk un _ n i hlog
  refine ⟨⟨fun i => ?_, fun i => ?_⟩, rfl⟩
  · rw [T.has_puts, hhas]; simp; omega
  · rw [T.get_puts un args 0 i _ (fun j hj => by rw [Nat.zero_add]; exact (hhas j).2 (by omega)), T.get_mk]
    by_cases hi : i < args.length
    · rw [if_pos (by omega)]
      obtain ⟨y, g1, g2⟩ := hx.get un i hi
      simp only [Nat.sub_zero]
      have : ((⟨xs⟩ : Array Value) ++ Array.replicate (n - (⟨xs⟩ : Array Value).size) undef).getD i undef = y := by
        rw [Array.getD_eq_getD_getElem?, Array.getElem?_append_left (by simp; omega)]
        simp [g1]
      rw [this]; exact g2
    · rw [if_neg (by omega)]
      have : ((⟨xs⟩ : Array Value) ++ Array.replicate (n - (⟨xs⟩ : Array Value).size) undef).getD i undef = undef := by
        rw [Array.getD_eq_getD_getElem?, Array.getElem?_append_right (by simp; omega), Array.getElem?_replicate]
        split <;> rfl
      rw [this]; exact undef_VR
abbrev CallOk (P : Program) (f : FuncId) (args : List V) (s : Nat) (h : H) (v : V) (h' : H) (s' : Nat) : Prop := ∀ e w xs, VRs e args xs → Sim e h w → Free e s →
  (callFunc f ⟨xs⟩).run P w = .ok (.enter f ⟨xs⟩) w ∧ Calls P f ⟨xs⟩ w (fun en w' => ∃ x, en = .returned x ∧ Good e s h w v h' s' x w')
theorem fnOf_ok {f : Nat} {c : Code} {n : Nat} {rs : List ResultVar} (h : fnOf P f = .fn c n rs) : ∃ fn, P.funcs[f]? = some fn ∧ fn.body = some c ∧ fn.ntmps = n ∧ fn.results.toList = rs ∧ ∀ xs w, (callFunc f xs).run P w = .ok (.enter f xs) w := by
  unfold fnOf at h
  split at h
  · rename_i fn hfn
    cases hn : (fn.name == "runtime.NumGoroutine") with
    | true => rw [hn] at h; cases h
    | false =>
      rw [hn] at h
      simp only [cond_false] at h
      split at h
      · rename_i c' hb
        injection h with h1 h2 h3
        subst h1 h2 h3
        refine ⟨fn, hfn, hb, rfl, rfl, fun xs w => ?_⟩
        have hn' : ¬ (fn.name = "runtime.NumGoroutine") := by
          intro h0
          rw [h0] at hn
          simp at hn
        simp [callFunc, Sem.run, hfn, hn', hb, program, Bind.bind, Sem.bind, Pure.pure]
      · cases h
  · cases h
theorem callV_ok {f : Nat} {args : List V} (hk : callV f args P pr ih h s k = r) (hr : r.good) (hih : SoundRn P ih) (hpr : SoundPr P pr) : ∃ v h' s', k v h' s' = r ∧ CallOk P f args s h v h' s' := by
  unfold callV at hk
  split at hk
  · rename_i g hg
    obtain ⟨v, h', s', h1, h2⟩ := hpr f g hg args h s k (by rw [hk]; exact hr)
    exact ⟨v, h', s', h1.trans hk, h2⟩
  · split at hk
    · rename_i c n rs hfn
      obtain ⟨fn, g1, g2, g3, g4, g5⟩ := fnOf_ok hfn
      obtain ⟨hn, hk⟩ := bif_ok hk (by simp [RO.good]) hr
      have hn : args.length ≤ n := by rw [← len_eq]; exact Nat.le_of_ble_eq_true hn
      have body := hih.wp c (T.puts args 0 (T.mk un (Nat.succ (Nat.log2 (Nat.succ n))) n)) h s
      cases hres : ih c (T.puts args 0 (T.mk un (Nat.succ (Nat.log2 (Nat.succ n))) n)) h s with
      | norm t' h' s' =>
        rw [hres] at hk body
        have hk : resV P t' h' rs (fun vs => k (tupV vs) h' s') = r := hk
        obtain ⟨vs, k1, k2⟩ := resV_val (by rw [hk]; exact hr)
        refine ⟨tupV vs, h', s', by rw [← hk, k1], fun e w xs hx hs hf => ⟨g5 _ _, calls_of_wp g1 g2 ?_⟩⟩
        rw [g3]
        refine wp_mono (body trivial [] e _ w (enter_AR hx hn) hs hf) (fun x a' w' hq => ?_)
        obtain ⟨rfl, e', ha, hp⟩ := hq
        obtain ⟨ys, m1, m2⟩ := k2 e' w' a'.tmps ha.tr hp.sim
        exact ⟨ha.nodef, _, run_results (by rw [g4]; exact m2), _, rfl, e', tup_VR m1, hp⟩
      | ret t' h' s' =>
        rw [hres] at hk body
        have hk : resV P t' h' rs (fun vs => k (tupV vs) h' s') = r := hk
        obtain ⟨vs, k1, k2⟩ := resV_val (by rw [hk]; exact hr)
        refine ⟨tupV vs, h', s', by rw [← hk, k1], fun e w xs hx hs hf => ⟨g5 _ _, calls_of_wp g1 g2 ?_⟩⟩
        rw [g3]
        refine wp_mono (body trivial [] e _ w (enter_AR hx hn) hs hf) (fun x a' w' hq => ?_)
        obtain ⟨rfl, e', ha, hp⟩ := hq
        obtain ⟨ys, m1, m2⟩ := k2 e' w' a'.tmps ha.tr hp.sim
        exact ⟨ha.nodef, _, run_results (by rw [g4]; exact m2), _, rfl, e', tup_VR m1, hp⟩
      | exit _ _ _ _ => rw [hres] at hk; subst hk; cases hr
      | err _ => rw [hres] at hk; subst hk; cases hr
    · subst hk; cases hr
/-- What the evaluator promises of an operation, before it knows where it is. -/
theorem oCall_ok {c : Call} (hk : oCall c P pr ih t h s k = r) (hr : r.good) (hih : SoundRn P ih) (hpr : SoundPr P pr) (ha : AR D e t a) (hs : Sim e h w) (hf : Free e s) (ho : o.op = .call c) : OpOk P e s h w a o k r := by
  obtain ⟨args, hk, hargs⟩ := opnds_ok (a := a) hk hr ha
  have hmap : (c.args.map a.eval) = ⟨c.args.toList.map a.eval⟩ := by apply Array.ext'; simp
  split at hk
  · rename_i b hcal
    obtain ⟨v, h', s', g1, z, w', g2, g3⟩ := builtinV_ok (ty := o.type) (cs := c.args.map fun | .const _ => true | _ => false) hk hr hs hf hargs
    refine ⟨v, h', s', g1, gives_value (x := z) (w' := w') ?_ g3⟩
    simp only [execOp, ho, resolve, hcal, Sem.run_bind, Sem.run_pure, Result.andThen, invoke, hmap]
    exact g2
  · rename_i x hcal
    obtain ⟨fv, hk, hfv⟩ := opnd_ok (a := a) hk hr ha
    generalize hc : a.eval x = cv at hfv
    split at hk
    · rename_i f caps
      cases hfv with
      | fn hcaps =>
        rename_i cs
        obtain ⟨v, h', s', g1, g2⟩ := callV_ok hk hr hih hpr
        obtain ⟨g3, g4⟩ := g2 e w _ (hargs.append hcaps) hs hf
        refine ⟨v, h', s', g1, ?_⟩
        unfold Gives
        have : (execOp a.eval o).run P w = .ok (.enter f ⟨c.args.toList.map a.eval ++ cs⟩) w := by
          simp only [execOp, ho, resolve, hcal, hc, Deferred.ofValue, Sem.run_bind, Sem.run_pure, Result.andThen, invoke, hmap]
          have e1 : (#[] : Array Value) ++ (⟨c.args.toList.map a.eval⟩ : Array Value) ++ (⟨cs⟩ : Array Value) = ⟨c.args.toList.map a.eval ++ cs⟩ := by apply Array.ext'; simp
          rw [e1]
          exact g3
        rw [this]
        exact g4
    · subst hk; cases hr
  · subst hk; cases hr
theorem opF_ok (hk : opF o.op P pr ih t h s k = r) (hr : r.good) (hih : SoundRn P ih) (hpr : SoundPr P pr) (ha : AR D e t a) (hs : Sim e h w) (hf : Free e s) : OpOk P e s h w a o k r := by
  cases ho : o.op with
  | move x => rw [ho] at hk; exact (oMove_pure (pr := pr) (ih := ih) hk hr ha hs (.inl ho)).ok hs hf
  | assign x => rw [ho] at hk; exact (oMove_pure (pr := pr) (ih := ih) hk hr ha hs (.inr ho)).ok hs hf
  | pick c x y => rw [ho] at hk; exact (oPick_pure (pr := pr) (ih := ih) hk hr ha hs ho).ok hs hf
  | alloc t0 => rw [ho] at hk; exact oAlloc_ok (pr := pr) (ih := ih) hk hr ha hs hf ho
  | box t0 x => rw [ho] at hk; exact oBox_ok (pr := pr) (ih := ih) hk hr ha hs hf ho
  | build t0 ps => rw [ho] at hk; exact (oBuild_pure (pr := pr) (ih := ih) hk hr ha hs ho).ok hs hf
  | buildSlice t0 n ps => rw [ho] at hk; exact oBuildSlice_ok (pr := pr) (ih := ih) hk hr ha hs hf ho
  | load t0 x => rw [ho] at hk; exact (oLoad_pure (pr := pr) (ih := ih) hk hr ha hs ho).ok hs hf
  | store t0 x y => rw [ho] at hk; exact oStore_ok (pr := pr) (ih := ih) hk hr ha hs hf ho
  | nilCheck x => rw [ho] at hk; exact (oNilCheck_pure (pr := pr) (ih := ih) hk hr ha hs ho).ok hs hf
  | binOp op t0 x y u => rw [ho] at hk; exact (oBin_pure (pr := pr) (ih := ih) hk hr ha hs ho).ok hs hf
  | unOp op t0 x => rw [ho] at hk; exact (oUn_pure (pr := pr) (ih := ih) hk hr ha hs ho).ok hs hf
  | convert t0 t1 x => rw [ho] at hk; exact (oConvert_pure (pr := pr) (ih := ih) hk hr ha hs ho).ok hs hf
  | makeInterface t0 x => rw [ho] at hk; exact (oMakeIface_pure (pr := pr) (ih := ih) hk hr ha hs ho).ok hs hf
  | makeFunc f l m => rw [ho] at hk; exact (oMakeFunc_pure (pr := pr) (ih := ih) hk hr ha hs ho).ok hs hf
  | makeMap t0 x => rw [ho] at hk; exact oMakeMap_ok (pr := pr) (ih := ih) hk hr ha hs hf ho
  | makeSlice t0 x y => rw [ho] at hk; exact oMakeSlice_ok (pr := pr) (ih := ih) hk hr ha hs hf ho
  | slice t0 x l m n => rw [ho] at hk; exact (oSlice_pure (pr := pr) (ih := ih) hk hr ha hs ho).ok hs hf
  | fieldAddr t0 x i => rw [ho] at hk; exact (oFieldAddr_pure (pr := pr) (ih := ih) hk hr ha hs ho).ok hs hf
  | field t0 x i => rw [ho] at hk; exact (oField_pure (pr := pr) (ih := ih) hk hr ha hs ho).ok hs hf
  | indexAddr t0 x i => rw [ho] at hk; exact (oIndexAddr_pure (pr := pr) (ih := ih) hk hr ha hs ho).ok hs hf
  | index t0 x i => rw [ho] at hk; exact (oIndex_pure (pr := pr) (ih := ih) hk hr ha hs ho).ok hs hf
  | lookup t0 x i b => rw [ho] at hk; exact (oLookup_pure (pr := pr) (ih := ih) hk hr ha hs ho).ok hs hf
  | mapUpdate t0 m i x => rw [ho] at hk; exact oMapUpdate_ok (pr := pr) (ih := ih) hk hr ha hs hf (.inl ho)
  | range t0 x => rw [ho] at hk; exact oRange_ok (pr := pr) (ih := ih) hk hr ha hs hf ho
  | next x b => rw [ho] at hk; exact oNext_ok (pr := pr) (ih := ih) hk hr ha hs hf ho
  | extract x i => rw [ho] at hk; exact (oExtract_pure (pr := pr) (ih := ih) hk hr ha hs ho).ok hs hf
  | call c => rw [ho] at hk; exact oCall_ok (pr := pr) (ih := ih) hk hr hih hpr ha hs hf ho
  | _ => rw [ho] at hk; change RO.err 130 = r at hk; subst hk; cases hr
end Go.Ev
