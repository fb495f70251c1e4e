/- An evaluator of the model's code: a function that ranges over a function. -/
import Derived.Test.YtgidckkcibplgaaGreatEvS
import Derived.RangeFuncLeaves
set_option linter.unusedVariables false
set_option linter.unusedSimpArgs false
set_option linter.unusedSectionVars false
namespace Go.Ev
variable {D : List Deferred} {P : Program} {pr : Prims} {ih : Rn} {e : Env} {t : T V} {h : H} {s : Nat} {w : World} {a : Act} {o : Oper}
def markOf (r : Nat) : Deferred := { target := .collected r, args := #[] }
/-- The loop over a function. -/
theorem wp_rangeFunc_once {f : Operand} {ps : Array Tmp} {as bd : Code} {g : FuncId} {caps : Array Value} {Q : Exit → Act → World → Prop} (hf : a.eval f = .func (.func g) #[] caps)
    (hcall : ∀ (lp : Loop), lp.state = .ready → lp.pending = none → lp.tmps = a.tmps → lp.params = ps → lp.assign = as → lp.body = bd → ∀ w1, w1 = (w.alloc (.deferred (some []))).alloc (.loop lp) →
      (callFunc g (#[.func (.yield (w.heap.size + 1)) #[] #[]] ++ caps)).run P w1 = .ok (.enter g (#[.func (.yield (w.heap.size + 1)) #[] #[]] ++ caps)) w1 ∧
      Calls P g (#[.func (.yield (w.heap.size + 1)) #[] #[]] ++ caps) w1 (fun en w' => ∃ x lp', en = .returned x ∧ w'.heap[w.heap.size + 1]? = some (.loop lp') ∧ lp'.state = .ready ∧ lp'.pending = none ∧
        Q .normal { a with defers := markOf w.heap.size :: a.defers } { w' with heap := w'.heap.setIfInBounds (w.heap.size + 1) (.loop { lp' with state := .exhausted }) })) :
    (Code.rangeFunc f ps as bd).wp P Q a w := by
  intro b k cs
  obtain ⟨h1, h2⟩ := hcall { state := .ready, pending := none, fn := b.fn, tmps := a.tmps, params := ps, assign := as, body := bd, defers := w.heap.size } rfl rfl rfl rfl rfl rfl _ rfl
  obtain ⟨fr1, hfr1⟩ : ∃ fr1 : Frame, fr1 = { fn := b.fn, tmps := a.tmps, todo := .inRangeFunc (w.heap.size + 1) :: k, defers := [markOf w.heap.size] ++ a.defers, mode := .run, kind := b.kind } := ⟨_, rfl⟩
  obtain ⟨en, w', fr', ⟨x, lp', rfl, hl, hst, hpe, hq⟩, hsteps, _, hleave⟩ := h2 (fr1 :: cs)
  refine ⟨.normal, _, _, hq, ?_⟩
  have hev : (b.at a (.code (.rangeFunc f ps as bd) :: k)).eval = a.eval := Frame.eval_at' b a _
  have s1 : step P (lone (b.at a (.code (.rangeFunc f ps as bd) :: k)) cs w) = .next (lone (Frame.enter P g (#[.func (.yield (w.heap.size + 1)) #[] #[]] ++ caps) .normal) (fr1 :: cs)
      ((w.alloc (.deferred (some []))).alloc (.loop { state := .ready, pending := none, fn := b.fn, tmps := a.tmps, params := ps, assign := as, body := bd, defers := w.heap.size }))) := by
    refine step_lone_go ?_
    have hent : (Instr.enterLoop b.fn a.tmps ps as bd none).run P w = .ok (w.heap.size + 1, [markOf w.heap.size]) ((w.alloc (.deferred (some []))).alloc (.loop { state := .ready, pending := none, fn := b.fn, tmps := a.tmps, params := ps, assign := as, body := bd, defers := w.heap.size })) := by
      have hsz : (w.alloc (.deferred (some []))).heap.size = w.heap.size + 1 := by show (w.heap.push _).size = _; simp
      have e0 : (Instr.enterLoop b.fn a.tmps ps as bd none).run P w = .ok ((w.alloc (.deferred (some []))).heap.size, [markOf w.heap.size]) ((w.alloc (.deferred (some []))).alloc (.loop { state := .ready, pending := none, fn := b.fn, tmps := a.tmps, params := ps, assign := as, body := bd, defers := w.heap.size })) := rfl
      rw [hsz] at e0
      exact e0
    have hev1 : fr1.eval f = .func (.func g) #[] caps := by rw [← hf, hfr1]; cases f <;> rfl
    have hres : (do let d ← resolve fr1.eval { callee := .value f, args := #[.const (.func (.yield (w.heap.size + 1)) #[] #[])], argTypes := #[] } 0; invoke d.target d.args : Sem Next).run P ((w.alloc (.deferred (some []))).alloc (.loop { state := .ready, pending := none, fn := b.fn, tmps := a.tmps, params := ps, assign := as, body := bd, defers := w.heap.size })) = .ok (.enter g (#[.func (.yield (w.heap.size + 1)) #[] #[]] ++ caps)) ((w.alloc (.deferred (some []))).alloc (.loop { state := .ready, pending := none, fn := b.fn, tmps := a.tmps, params := ps, assign := as, body := bd, defers := w.heap.size })) := by
      simp only [resolve, hev1, Deferred.ofValue, Sem.run_bind, Sem.run_pure, Result.andThen, invoke]
      have hmm : (#[] : Array Value) ++ Array.map fr1.eval #[Operand.const (.func (.yield (w.heap.size + 1)) #[] #[])] = #[.func (.yield (w.heap.size + 1)) #[] #[]] := by simp [Frame.eval]
      rw [hmm]
      exact h1
    have hent' : (Instr.enterLoop b.fn a.tmps ps as bd none).runT P w #[] = (.ok (w.heap.size + 1, [markOf w.heap.size]) ((w.alloc (.deferred (some []))).alloc (.loop { state := .ready, pending := none, fn := b.fn, tmps := a.tmps, params := ps, assign := as, body := bd, defers := w.heap.size })), Sem.events P (Instr.enterLoop b.fn a.tmps ps as bd none) w #[]) := by
      rw [Sem.runT_eq, hent]
    simp only [stepG, stepG.exec, Frame.at]
    rw [hent']
    simp only [GStep.bare_after, stepG.apply, if_true]
    rw [← hfr1]
    simp only [Sem.runT_eq]
    rw [hres]
    rfl
  have s2 : step P (lone fr' (fr1 :: cs) w') = .next (lone (fr1.finish x) cs w') := step_leave_returned hleave
  have s3 : step P (lone (fr1.finish x) cs w') = .next (lone (b.at { a with defers := markOf w.heap.size :: a.defers } k) cs { w' with heap := w'.heap.setIfInBounds (w.heap.size + 1) (.loop { lp' with state := .exhausted }) }) := by
    refine step_lone_go ?_
    have hfin : fr1.finish x = { fn := b.fn, tmps := a.tmps, todo := .endRangeFunc (w.heap.size + 1) :: k, defers := [markOf w.heap.size] ++ a.defers, mode := .run, kind := b.kind } := by rw [hfr1]; rfl
    rw [hfin]
    have hend : (Instr.endLoop (w.heap.size + 1)).run P w' = .ok none { w' with heap := w'.heap.setIfInBounds (w.heap.size + 1) (.loop { lp' with state := .exhausted }) } := by
      obtain ⟨st, pe, fn, tm, pm, as', bd', df⟩ := lp'
      simp only at hst hpe
      subst hst hpe
      simp [Instr.endLoop, Instr.getLoop, getObj, setObj, Sem.run, hl, Result.andThen]
    simp only [stepG, stepG.exec, Sem.runT_eq]
    rw [hend]
    simp only [GStep.bare_after]
    rfl
  exact .head s1 (Steps.trans hsteps (.head s2 (.one s3)))
end Go.Ev
