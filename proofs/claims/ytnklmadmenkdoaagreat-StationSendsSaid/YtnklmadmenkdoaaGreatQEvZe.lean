/- An evaluator of the model's code: a function that ranges over a function, whole. -/
import Derived.Test.YtnklmadmenkdoaaGreatQEvZd
set_option linter.unusedVariables false
set_option linter.unusedSimpArgs false
set_option linter.unusedSectionVars false
namespace Go.Ev
variable {D : List Deferred} {P : Program} {pr : Prims} {ih : Rn} {e : Env} {t : T V} {h : H} {s : Nat} {w : World} {a : Act} {o : Oper}
theorem calls_of_wp_mark {f : FuncId} {fn : Func} {c : Code} {args : Array Value} {R : Ending → World → Prop} (hf : P.funcs[f]? = some fn) (hb : fn.body = some c)
    (h : c.wp P (fun x a w => (x = .normal ∨ x = .ret) ∧ ∃ r, a.defers = [markOf r] ∧ w.heap[r]? = some (.deferred (some [])) ∧
      ∃ v, (results fn a.tmps).run P { w with heap := w.heap.setIfInBounds r (.deferred none) } = .ok v { w with heap := w.heap.setIfInBounds r (.deferred none) } ∧ R (.returned v) { w with heap := w.heap.setIfInBounds r (.deferred none) })
      { tmps := args ++ Array.replicate (fn.ntmps - args.size) undef, defers := [] } w) : Calls P f args w R := by
  intro cs
  let b : Frame := { (default : Frame) with fn := f, kind := .normal }
  have henter : Frame.enter P f args .normal = b.at { tmps := args ++ Array.replicate (fn.ntmps - args.size) undef, defers := [] } [.code c] := by
    simp [Frame.enter, Frame.at, hf, hb, b]
  obtain ⟨x, a', w', ⟨hx, r, hd, hw, v, hr, hR⟩, harr⟩ := h b [] cs
  rw [← henter] at harr
  have htake : (Instr.takeDeferred r).run P w' = .ok [] { w' with heap := w'.heap.setIfInBounds r (.deferred none) } := by
    simp [Instr.takeDeferred, getObj, setObj, Sem.run, hw, Result.andThen]
  have go : ∀ todo, Steps P (lone (Frame.enter P f args .normal) cs w) (lone { b.at a' todo with mode := .returning } cs w') →
      ∃ e w'' fr, R e w'' ∧ Comes P (lone (Frame.enter P f args .normal) cs w) (lone fr cs w'') e ∧ fr.fn = f ∧ fr.leaving P w'' e := fun todo hs => by
    have h1 := step_collected (P := P) (fr := { b.at a' todo with mode := .returning }) (cs := cs) (w := w') (by simp) (show a'.defers = _ from hd) rfl htake
    exact ⟨.returned v, _, _, hR, Steps.trans hs (.one h1), rfl, rfl, rfl, rfl, fn, hf, hr⟩
  rcases hx with rfl | rfl
  · exact go [] (Steps.trans harr (.one step_end))
  · obtain ⟨todo, hs⟩ := harr
    exact go todo hs
theorem opnd_val {x : Operand} {K : V → RO} (hr : (opnd t x K).good) : ∃ v, (∀ K, opnd t x K = K v) ∧ ∀ D e a, AR D e t a → VR e v (a.eval x) := by
  cases x with
  | tmp i => exact ⟨_, fun _ => rfl, fun D e a ha => ha.tr.val i⟩
  | const v =>
    simp only [opnd] at hr ⊢
    cases hv : ofV v with
    | none => rw [hv] at hr; cases hr
    | some u => exact ⟨u, fun K => rfl, fun D e a ha => ofV_VR hv⟩
  | global g => cases hr
  | func f => exact ⟨_, fun _ => rfl, fun D e a ha => .fn .nil⟩
/-- A block that no number stands for is turned. -/
theorem PX.poke {e' : Env} {h' : H} {w' : World} (p : PX e s h w e' h' w') {n : Nat} {ob : Obj} (hn : w.heap.size ≤ n) (hl : ∀ b x, live h' b → e' b = some x → x.n ≠ n) : PX e s h w e' h' { w' with heap := w'.heap.setIfInBounds n ob } where
  lim0 := p.lim0
  le := p.le
  low := p.low
  sim := ⟨fun b hb => by
    obtain ⟨x, o, g1, g2, g3⟩ := p.sim.blk b hb
    refine ⟨x, o, g1, ?_, g3⟩
    show (w'.heap.setIfInBounds n ob)[x.n]? = _
    rw [Array.getElem?_setIfInBounds_ne (Ne.symm (hl b x hb g1))]; exact g2, p.sim.inj, by simpa using p.sim.big, fun m hm => (show (w'.heap.setIfInBounds n ob)[m]? = _ by rw [Array.getElem?_setIfInBounds_ne (by rw [p.le.base] at hm; have := p.lim0 _ hm; omega)]; exact p.sim.old m hm), p.sim.above⟩
  dom := p.dom
  keep := fun m hm hk => by
    show (w'.heap.setIfInBounds n ob)[m]? = _
    rw [Array.getElem?_setIfInBounds_ne (by omega)]; exact p.keep m hm hk
  size := by show w.heap.size ≤ (w'.heap.setIfInBounds n ob).size; simpa using p.size
  os := p.os
  tape := p.tape
  output := p.output
theorem PX.push {e' : Env} {h' : H} {w' : World} (p : PX e s h w e' h' w') (ob : Obj) : PX e s h w e' h' (w'.alloc ob) where
  lim0 := p.lim0
  le := p.le
  low := p.low
  sim := ⟨fun b hb => by
    obtain ⟨x, o, g1, g2, g3⟩ := p.sim.blk b hb
    refine ⟨x, o, g1, ?_, g3⟩
    obtain ⟨k1, k2⟩ := Array.getElem?_eq_some_iff.1 g2
    show (w'.heap.push ob)[x.n]? = _
    rw [Array.getElem?_push_lt k1, k2], p.sim.inj, fun m hm => Nat.lt_of_lt_of_le (p.sim.big m hm) (show w'.heap.size ≤ (w'.heap.push ob).size by simp), fun m hm => (show (w'.heap.push ob)[m]? = _ by rw [Array.getElem?_push_lt (p.sim.big m hm)]; have := p.sim.old m hm; rw [← this]; simp [p.sim.big m hm]), p.sim.above⟩
  dom := p.dom
  keep := fun m hm hk => by
    have h1 := p.keep m hm hk
    rw [← h1]
    have hlt := Nat.lt_of_lt_of_le hm p.size
    show (w'.heap.push ob)[m]? = _
    rw [Array.getElem?_push_lt hlt]; simp [hlt]
  size := by show w.heap.size ≤ (w'.heap.push ob).size; have := p.size; simp; omega
  os := p.os
  tape := p.tape
  output := p.output
theorem PX.of {e' : Env} {s' : Nat} {h' : H} {w' : World} (hs : Sim e h w) (p : Post e s h w e' s' h' w') : PX e s h w e' h' w' := ⟨hs.big, p.le, p.low, p.sim, p.dom, p.keep, p.size, p.os, p.tape, p.output⟩
theorem push_last (xs : Array Obj) (o : Obj) : (xs.push o)[xs.size]? = some o := by simp
theorem rfEnd_ok {rs : List ResultVar} {k : K} {r : RO} (hr : (rfEnd P rs k r).good) : ∃ t' h' s', (r = .norm t' h' s' ∨ r = .ret t' h' s') ∧ ∃ vs, k (tupV vs) h' s' = rfEnd P rs k r ∧ ∀ e w tm, TR e t' tm → Sim e h' w → ∃ xs, VRs e vs xs ∧ (rs.mapM (resOne tm)).run P w = .ok xs w := by
  cases r with
  | norm t' h' s' =>
    have hr' : (resV P t' h' rs (fun vs => k (tupV vs) h' s')).good := hr
    obtain ⟨vs, k1, k2⟩ := resV_val hr'
    exact ⟨t', h', s', .inl rfl, vs, (k1 (fun vs => k (tupV vs) h' s')).symm, k2⟩
  | ret t' h' s' =>
    have hr' : (resV P t' h' rs (fun vs => k (tupV vs) h' s')).good := hr
    obtain ⟨vs, k1, k2⟩ := resV_val hr'
    exact ⟨t', h', s', .inr rfl, vs, (k1 (fun vs => k (tupV vs) h' s')).symm, k2⟩
  | exit _ _ _ _ => cases hr
  | err _ => cases hr
  | or _ _ => cases hr
theorem rfV_ok {F : Nat} {args : List V} {k : K} (hih : SoundRn P ih) (hpr : SoundPr P pr) (hr : (rfV P pr ih F args h s k).good) : CallOk P F args s h k (rfV P pr ih F args h s k) := by
  generalize hk : rfV P pr ih F args h s k = r at hr ⊢
  unfold rfV at hk
  split at hk
  case h_2 => subst hk; exact hr.elim
  rename_i A A1 id f ps as bd C n rs hfn
  obtain ⟨fn, g1, g2, g3, g4, g5⟩ := fnOf_ok hfn
  obtain ⟨hn, hk⟩ := bif_ok hk (by simp [RO.good]) hr
  have hn : args.length ≤ n := by rw [← len_eq]; exact Nat.le_of_ble_eq_true hn
  cases hA : ih A (T.puts args 0 (T.mk un (Nat.succ (Nat.log2 (Nat.succ n))) n)) h s with
  | norm tA hA' sA =>
    rw [hA] at hk; dsimp only at hk
    cases hB : ih A1 tA hA' sA with
    | norm tB hB' sB =>
      rw [hB] at hk; dsimp only at hk
      obtain ⟨fv, hfv, hfvr⟩ := opnd_val (by rw [hk]; exact hr)
      rw [hfv] at hk
      cases fv with
      | fn g caps =>
        dsimp only at hk
        unfold newB at hk
        obtain ⟨hhas, hk⟩ := bif_ok hk (by simp [RO.good]) hr
        have c0 := callV_ok hk hr hih hpr
        intro e w xs hx hs hf
        refine ⟨g5 _ _, calls_of_wp_mark g1 g2 ?_⟩
        rw [g3]
        have bodyA := hih.wp A (T.puts args 0 (T.mk un (Nat.succ (Nat.log2 (Nat.succ n))) n)) h s (by rw [hA]; trivial) [] e _ w (enter_AR hx hn) hs hf
        rw [hA] at bodyA
        refine wp_seq (wp_mono bodyA (fun x1 a1 w1 hq => ?_))
        obtain ⟨rfl, e1, ha1, p1⟩ := hq
        have bodyB := hih.wp A1 tA hA' sA (by rw [hB]; trivial) [] e1 a1 w1 ha1 p1.sim p1.free
        rw [hB] at bodyB
        refine wp_seq (wp_seq (wp_mono bodyB (fun x2 a2 w2 hq => ?_)))
        obtain ⟨rfl, e2, ha2, p2⟩ := hq
        have p12 := p1.trans p2
        refine wp_block ?_
        have hfa := hfvr _ _ _ ha2
        generalize hfe : a2.eval f = fx at hfa
        cases hfa with
        | fn hcaps =>
          rename_i cs
          refine wp_rangeFunc_once hfe (fun lp hl1 hl2 hl3 hl4 hl5 hl6 wr hwr => ?_)
          have px0 : PX e s h w e2 hB' (w2.alloc (.deferred (some []))) := (PX.of hs p12).push _
          have hszd : (w2.alloc (.deferred (some []))).heap.size = w2.heap.size + 1 := by show (w2.heap.push _).size = _; simp
          obtain ⟨e3, he3, pl⟩ := alloc_post (w := w2.alloc (.deferred (some []))) px0.sim p2.free hhas (blk := .loop tB ps.toList as bd) (by simp) (o := .loop lp) (sz := 0) (fun e' hle => .loop hl1 hl2 (by rw [hl4]) hl5 hl6 (fun i => by rw [hl3]; exact ha2.tr.has i) (fun i => by rw [hl3]; exact (ha2.tr.val i).mono hle))
          rw [← hwr] at pl
          rw [hszd] at he3
          have px1 := px0.trans p12.up (fun b x hl hx => .inl hl) pl
          have hcat : (#[.func (.yield (w2.heap.size + 1)) #[] #[]] ++ (⟨cs⟩ : Array Value)) = ⟨.func (.yield (w2.heap.size + 1)) #[] #[] :: cs⟩ := by apply Array.ext'; simp
          rw [hcat]
          obtain ⟨m1, m2⟩ := c0 e3 wr _ (.cons (.yld he3) (hcaps.mono pl.le)) px1.sim pl.free
          refine ⟨m1, Calls.mono m2 (fun en w3 hq => ?_)⟩
          obtain ⟨x, rfl, v, h2, s2, hsub, e4, hxv, p4⟩ := hq
          have hgood := hsub.good hr
          dsimp only at hsub hgood
          cases hlb : h2.get .gone sB with
          | loop t0 ps0 as0 bd0 =>
            rw [hlb] at hsub hgood
            dsimp only at hsub hgood
            have he4 : e4 sB = some ⟨w2.heap.size + 1, 0, 0⟩ := p4.le.of _ _ he3
            obtain ⟨hlv, _, lp', hw3, l1, l2, _⟩ := loop_at p4.sim hlb he4
            simp only at hw3
            obtain ⟨tC, hC', sC, hC, vs, k1, k2⟩ := rfEnd_ok hgood
            have hws : wr.heap.size = w2.heap.size + 2 := by rw [hwr]; show ((w2.heap.push _).push _).size = _; simp
            have hr0 : wr.heap[w2.heap.size]? = some (.deferred (some [])) := by
              rw [hwr]; show ((w2.heap.push _).push _)[_]? = _
              rw [Array.getElem?_push_lt (by simp)]; simp
            have out2 : ∀ b x, live (hB'.set sB (.loop tB ps.toList as bd)) b → e3 b = some x → x.n ≠ w2.heap.size := fun b x hl hx => by
              by_cases hbb : b = sB
              · subst hbb; rw [he3] at hx; injection hx with hx; subst hx; simp
              · unfold live at hl
                rw [T.get_set .gone hB' sB b _ hhas, if_neg hbb] at hl
                obtain ⟨x', o', k1, k2, _⟩ := p2.sim.blk b hl
                have : e3 b = some x' := pl.le.of _ _ k1
                rw [hx] at this; injection this with this; subst this
                have := (Array.getElem?_eq_some_iff.1 k2).1
                omega
            have hk0 : w3.heap[w2.heap.size]? = some (.deferred (some [])) := by rw [p4.keep _ (by omega) out2]; exact hr0
            have out4 := p4.out (n := w2.heap.size) (by omega) out2
            have hsz3 : w2.heap.size + 2 ≤ w3.heap.size := by have := p4.size; omega
            refine ⟨x, lp', rfl, hw3, l1, l2, ?_⟩
            have px2 := px1.trans (Nat.le_trans p12.up (Nat.le_succ _)) (fun b x hl hx => .inl hl) p4
            have pg := gone_post p4.sim p4.free (b := sB)
            have px3 := px2.trans (Nat.le_trans p12.up (Nat.le_trans (Nat.le_succ _) p4.up)) (fun b x hl hx => .inl hl) pg
            have hog : ∀ b x, live (h2.set sB .gone) b → e4 b = some x → x.n ≠ w2.heap.size + 1 := fun b x hl hx hn => by
              obtain ⟨q1, q2⟩ := gone_live hl
              exact q1 (p4.sim.inj b sB x _ q2 hlv hx he4 hn)
            have px4 := px3.poke (n := w2.heap.size + 1) (ob := .loop { lp' with state := .exhausted }) (by have := p12.size; omega) hog
            show Code.wp P C _ _ _
            have haC : AR [markOf w2.heap.size] e4 tB { a2 with defers := markOf w2.heap.size :: a2.defers } := ⟨ha2.tr.mono (pl.le.trans p4.le), by show markOf w2.heap.size :: a2.defers = _; rw [ha2.nodef]⟩
            have bodyC := hih.wp C tB (h2.set sB .gone) s2 (by rcases hC with hC | hC <;> rw [hC] <;> trivial) _ e4 _ _ haC px4.sim p4.free
            refine wp_mono bodyC (fun x4 a4 w4 hq => ?_)
            have hq' : (x4 = .normal ∨ x4 = .ret) ∧ ∃ e5, AR [markOf w2.heap.size] e5 tC a4 ∧ Post e4 s2 (h2.set sB .gone) { w3 with heap := w3.heap.setIfInBounds (w2.heap.size + 1) (.loop { lp' with state := .exhausted }) } e5 sC hC' w4 := by
              rcases hC with hC | hC <;> rw [hC] at hq
              · exact ⟨.inl hq.1, hq.2⟩
              · exact ⟨.inr hq.1, hq.2⟩
            obtain ⟨hx4, e5, ha4, p5⟩ := hq'
            have out3 : ∀ b x, live (h2.set sB .gone) b → e4 b = some x → x.n ≠ w2.heap.size := fun b x hl hx => out4 b x (gone_live hl).2 hx
            have hk4 : w4.heap[w2.heap.size]? = some (.deferred (some [])) := by
              rw [p5.keep _ (by show _ < (w3.heap.setIfInBounds _ _).size; simp; omega) out3]
              show (w3.heap.setIfInBounds (w2.heap.size + 1) _)[w2.heap.size]? = _
              rw [Array.getElem?_setIfInBounds_ne (by omega)]; exact hk0
            have hup : s ≤ s2 := Nat.le_trans p12.up (Nat.le_trans (Nat.le_succ _) p4.up)
            have px5 := px4.trans hup (fun b x hl hx => .inl hl) p5
            have out5 := p5.out (n := w2.heap.size) (by show _ < (w3.heap.setIfInBounds _ _).size; simp; omega) out3
            have px6 := px5.poke (n := w2.heap.size) (ob := .deferred none) p12.size out5
            obtain ⟨ys, r1, r2⟩ := k2 e5 _ a4.tmps ha4.tr px6.sim
            refine ⟨hx4, w2.heap.size, ha4.nodef, hk4, _, run_results (by rw [g4]; exact r2), _, rfl, tupV vs, hC', sC, by rw [k1]; exact hsub, e5, tup_VR r1, px6.le, px6.low, ?_, p5.free, px6.sim, px6.dom, px6.keep, px6.size, px6.os, px6.tape, px6.output⟩
            exact Nat.le_trans hup p5.up
          | _ => rw [hlb] at hgood; exact hgood.elim
      | _ => subst hk; exact hr.elim
    | _ => rw [hB] at hk; subst hk; exact hr.elim
  | _ => rw [hA] at hk; subst hk; exact hr.elim
end Go.Ev
