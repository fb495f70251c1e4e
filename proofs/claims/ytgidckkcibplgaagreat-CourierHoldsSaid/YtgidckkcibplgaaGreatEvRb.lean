/- An evaluator of the model's code: the rounds of a loop over a function. -/
import Derived.Test.YtgidckkcibplgaaGreatEvQ
set_option linter.unusedVariables false
set_option linter.unusedSimpArgs false
namespace Go.Ev
variable {D : List Deferred}
variable {P : Program} {pr : Prims} {ih : Rn} {e : Env} {t : T V} {h : H} {s : Nat} {w : World} {a : Act} {r : RO} {k : K} {o : Oper}
theorem noDefer_ok : ∀ {l : List Oper}, noDefer l = true → ∀ o ∈ l, ∀ c, o.op ≠ .defer c
  | [], h, o, ho, c, hc => by cases ho
  | p :: l, h, o, ho, c, hc => by
    have e1 : ∀ q : Oper, noDefer (q :: l) = (match q.op with | .defer _ => false | _ => noDefer l) := fun _ => rfl
    rw [e1] at h
    split at h
    · cases h
    · rename_i hp
      rcases List.mem_cons.1 ho with rfl | ho
      · exact hp _ hc
      · exact noDefer_ok h o ho c hc
theorem runR_ok (l : Nat) (hih : SoundRn P ih) (hpr : SoundPr P pr) : ∀ n c t h s, (runR P pr ih n c t h s).good → ∀ D e a w, AR D e t a → Sim e h w → Free e s → c.wpIn (Fence.wide.inRound l) 0 P (LR D (runR P pr ih n c t h s) e s h w) a w
  | 0, c, t, h, s, hr, D, e, a, w, ha, hs, hf => hr.elim
  | n + 1, c, t, h, s, hr, D, e, a, w, ha, hs, hf => by
    cases c with
    | skip => exact wpIn_skip ⟨rfl, e, ha, Post.refl hs hf⟩
    | seq x y =>
      change (match runR P pr ih n x t h s with | .norm t h s => runR P pr ih n y t h s | _ => .err 195 : RO).good at hr
      show (Code.seq x y).wpIn _ 0 P (LR D (match runR P pr ih n x t h s with | .norm t h s => runR P pr ih n y t h s | _ => .err 195 : RO) e s h w) a w
      have body := runR_ok l hih hpr n x t h s
      cases hres : runR P pr ih n x t h s with
      | norm t' h' s' =>
        rw [hres] at hr body
        dsimp only at hr ⊢
        refine wpIn_seq (wpIn_mono (body trivial D e a w ha hs hf) (fun x1 a1 w1 hq => ?_))
        obtain ⟨rfl, e', ha', hp⟩ := hq
        exact wpIn_mono (runR_ok l hih hpr n y t' h' s' hr D e' a1 w1 ha' hp.sim hp.free) (fun _ _ _ q => LR.trans hp q)
      | _ => rw [hres] at hr; exact hr.elim
    | block id x =>
      change (match runR P pr ih n x t h s with | .norm t h s => .norm t h s | _ => .err 195 : RO).good at hr
      show (Code.block id x).wpIn _ 0 P (LR D (match runR P pr ih n x t h s with | .norm t h s => .norm t h s | _ => .err 195 : RO) e s h w) a w
      have body := runR_ok l hih hpr n x t h s
      cases hres : runR P pr ih n x t h s with
      | norm t' h' s' =>
        rw [hres] at hr body
        dsimp only at hr ⊢
        refine wpIn_block (wpIn_mono (body trivial D e a w ha hs hf) (fun x1 a1 w1 hq => ?_))
        obtain ⟨rfl, hq'⟩ := hq
        exact ⟨rfl, hq'⟩
      | _ => rw [hres] at hr; exact hr.elim
    | region id ops d =>
      cases d with
      | true => exact hr.elim
      | false =>
        change (bif noDefer ops.toList then opersY noYl ops.toList P pr ih ops.toList t h s else .err 196 : RO).good at hr
        show (Code.region id ops false).wpIn _ 0 P (LR D (bif noDefer ops.toList then opersY noYl ops.toList P pr ih ops.toList t h s else .err 196 : RO) e s h w) a w
        cases hd : noDefer ops.toList with
        | false => rw [hd] at hr; exact hr.elim
        | true =>
          rw [hd] at hr
          exact regionY_ok (FW.round l) noYl_ok hih hpr (.inr (noDefer_ok hd)) hr ha hs hf
    | _ => exact hr.elim
theorem putPs_ok : ∀ {ps : List Nat} {vs : List V} {t t1 : T V} {xs : List Value} {tm : Array Value}, putPs ps vs t = some t1 → TR e t tm → VRs e vs xs →
    xs.length = ps.length ∧ TR e t1 ((ps.zip xs).foldl (fun tm (p, v) => tm.setIfInBounds p v) tm)
  | [], [], t, t1, _, tm, hk, ht, .nil => by injection hk with hk; subst hk; exact ⟨rfl, ht⟩
  | [], v :: vs, t, t1, _, tm, hk, ht, .cons _ _ => by cases hk
  | p :: ps, [], t, t1, _, tm, hk, ht, .nil => by cases hk
  | p :: ps, v :: vs, t, t1, _, tm, hk, ht, .cons hv hvs => by
    change putPs ps vs (t.set p v) = some t1 at hk
    obtain ⟨h1, h2⟩ := putPs_ok hk (ht.put (d := p) hv) hvs
    exact ⟨by simp [h1], by simpa using h2⟩
/-- A block that no number stands for is turned. -/
theorem Sim.poke (hs : Sim e h w) {n : Nat} {ob : Obj} (hab : ¬ e.base.prot n) (hl : ∀ b x, live h b → e b = some x → x.n ≠ n) : Sim e h { w with heap := w.heap.setIfInBounds n ob } :=
  ⟨fun b hb => by
    obtain ⟨x, o, g1, g2, g3⟩ := hs.blk b hb
    refine ⟨x, o, g1, ?_, g3⟩
    show (w.heap.setIfInBounds n ob)[x.n]? = _
    rw [Array.getElem?_setIfInBounds_ne (Ne.symm (hl b x hb g1))]; exact g2, hs.inj, by simpa using hs.big, fun m (hm : e.base.prot m) => (show (w.heap.setIfInBounds n ob)[m]? = _ by rw [Array.getElem?_setIfInBounds_ne (by intro hq; subst hq; exact hab hm)]; exact hs.old m hm), hs.above⟩
theorem Sim.in {x : Loc} {b : Nat} (hs : Sim e h w) (hl : live h b) (hx : e b = some x) : x.n < w.heap.size := by
  obtain ⟨x', o, g1, g2, _⟩ := hs.blk b hl
  rw [hx] at g1; injection g1 with g1; subst g1
  exact (Array.getElem?_eq_some_iff.1 g2).1
/-- What a piece leaves lies outside of a block that it did not know. -/
theorem Post.out {e' : Env} {s' : Nat} {h' : H} {w' : World} (p : Post e s h w e' s' h' w') {n : Nat} (hn : n < w.heap.size) (ho : ∀ b x, live h b → e b = some x → x.n ≠ n) : ∀ b x, live h' b → e' b = some x → x.n ≠ n := fun b x hl hx => by
  rcases p.dom b x hl hx with ⟨b0, x0, g1, g2, g3⟩ | g1
  · rw [← g3]; exact ho b0 x0 g1 g2
  · omega
theorem loop_at (hs : Sim e h w) {b : Nat} {t0 : T V} {ps : List Nat} {as bd : Code} (hb : h.get .gone b = .loop t0 ps as bd) {x : Loc} (hx : e b = some x) :
    live h b ∧ x.sh = 0 ∧ ∃ lp, w.heap[x.n]? = some (.loop lp) ∧ lp.state = .ready ∧ lp.pending = none ∧ lp.params.toList = ps ∧ lp.assign = as ∧ lp.body = bd ∧ TR e t0 lp.tmps := by
  have hl : live h b := live_of_cells hb (by simp)
  obtain ⟨x', o', h1, h2, h3⟩ := hs.blk b hl
  rw [hx] at h1; injection h1 with h1; subst h1
  rw [hb] at h3
  cases h3 with
  | loop g1 g2 g3 g4 g5 g6 g7 => exact ⟨hl, rfl, _, h2, g1, g2, g3, g4, g5, ⟨g6, g7⟩⟩
theorem run_getLoop {n : Nat} {lp : Loop} (hw : w.heap[n]? = some (.loop lp)) : (Instr.getLoop n).run P w = .ok lp w := by
  simp [Instr.getLoop, run_getObj (P := P) hw (by simp), Result.andThen]
theorem set_same {n : Nat} {ob : Obj} (hw : w.heap[n]? = some ob) : w.heap.setIfInBounds n ob = w.heap := by
  apply Array.ext_getElem?
  intro j
  by_cases hj : j = n
  · subst hj; rw [hw]; simp [(Array.getElem?_eq_some_iff.1 hw).1]
  · rw [Array.getElem?_setIfInBounds_ne (Ne.symm hj)]
theorem gone_live {b b' : Nat} (hl : live (h.set b .gone) b') : b' ≠ b ∧ live h b' := by
  cases hb : h.has b with
  | false =>
    rw [T.set_off h b _ hb] at hl
    refine ⟨fun he => ?_, hl⟩
    subst he
    exact hl (T.get_off .gone h b' hb)
  | true =>
    unfold live at hl ⊢
    rw [T.get_set .gone h b b' _ hb] at hl
    by_cases hbb : b' = b
    · rw [if_pos hbb] at hl; exact absurd rfl hl
    · rw [if_neg hbb] at hl; exact ⟨hbb, hl⟩
theorem yieldV_ok (hih : SoundRn P ih) (hpr : SoundPr P pr) : YlOk Fence.wide P (yieldV P pr ih) := by
  intro b args h s k hr e w xs hx hs hf n sh sz hb
  refine ⟨rfl, ?_⟩
  generalize hk : yieldV P pr ih b args h s k = r at hr ⊢
  unfold yieldV at hk
  split at hk
  · rename_i t0 ps as bd hbl
    split at hk
    · rename_i t1 hps
      obtain ⟨hlb, hsh, lp, hw, l1, l2, l3, l4, l5, l6⟩ := loop_at hs hbl hb
      simp only at hsh hw
      subst hsh
      obtain ⟨hlen, htr⟩ := putPs_ok hps l6 hx
      have hnw := (Array.getElem?_eq_some_iff.1 hw).1
      cases hA : runR P pr ih 100 as t1 (h.set b .gone) s with
      | norm t2 h2 s2 =>
        rw [hA] at hk
        dsimp only at hk
        cases hB : runR P pr ih 100 bd t2 h2 s2 with
        | norm t3 h3 s3 =>
          rw [hB] at hk
          dsimp only at hk
          have hsz : ¬ ((⟨xs⟩ : Array Value).size ≠ lp.params.size) := by
            have : lp.params.size = ps.length := by rw [← l3]; simp
            simp [this, hlen]
          refine ⟨lp.fn, (lp.params.zip ⟨xs⟩).foldl (fun tmps (t, a) => tmps.setIfInBounds t a) lp.tmps, lp.assign, lp.body, ?_, ?_⟩
          · simp only [Instr.yield, Sem.run_bind, run_getLoop hw, Result.andThen, if_neg hsz, Sem.run_pure]
          · have hfold : (lp.params.zip ⟨xs⟩).foldl (fun tmps (t, a) => tmps.setIfInBounds t a) lp.tmps = (ps.zip xs).foldl (fun tm (p, v) => tm.setIfInBounds p v) lp.tmps := by
              rw [← Array.foldl_toList, Array.toList_zip, l3]
            rw [hfold, l4, l5]
            have pg := gone_post hs hf (b := b)
            have hog : ∀ b' x, live (h.set b .gone) b' → e b' = some x → x.n ≠ n := fun b' x hl hx' hn => by
              obtain ⟨g1, g2⟩ := gone_live hl
              exact g1 (hs.inj b' b x _ g2 hlb hx' hb hn)
            refine roundIn_of_wpIn trivial (wpIn_mono (runR_ok n hih hpr 100 as t1 (h.set b .gone) s (by rw [hA]; trivial) [] e _ w ⟨htr, rfl⟩ pg.sim hf) (fun x1 a1 w1 hq => ?_))
            rw [hA] at hq
            obtain ⟨rfl, e1, ha1, p1⟩ := hq
            have hw1 : w1.heap[n]? = some (.loop lp) := by rw [p1.keep n hnw hog]; exact hw
            have hn1 := (Array.getElem?_eq_some_iff.1 hw1).1
            have ho1 := p1.out hnw hog
            refine ⟨{ w1 with heap := w1.heap.setIfInBounds n (.loop { lp with state := .busy }) }, ?_, ?_⟩
            · simp [Instr.beginRound, run_getLoop hw1, Result.andThen, run_setObj (P := P) hw1 (by simp), l1]
            have hs2 : Sim e1 h2 { w1 with heap := w1.heap.setIfInBounds n (.loop { lp with state := .busy }) } := p1.sim.poke (by rw [p1.le.base]; exact hs.above b _ hlb hb) ho1
            refine wpIn_mono (runR_ok n hih hpr 100 bd t2 h2 s2 (by rw [hB]; trivial) [] e1 a1 _ ha1 hs2 p1.free) (fun x2 a2 w3 hq => ?_)
            rw [hB] at hq
            obtain ⟨rfl, e3, ha3, p3⟩ := hq
            have hnb : n < (w1.heap.setIfInBounds n (Obj.loop { lp with state := .busy })).size := by simpa using hn1
            have hw3 : w3.heap[n]? = some (.loop { lp with state := .busy }) := by
              rw [p3.keep n hnb ho1]; simp [hn1]
            have ho3 := p3.out hnb ho1
            have hn3 := (Array.getElem?_eq_some_iff.1 hw3).1
            refine ⟨.bool true, { w3 with heap := w3.heap.setIfInBounds n (.loop lp) }, ?_, ?_⟩
            · have hset := run_setObj (P := P) (ob' := .loop lp) hw3 (by simp)
              obtain ⟨st, pe, fn, tm, pm, as', bd', df⟩ := lp
              simp only at l1 l2
              subst l1 l2
              simp [Instr.endRound, run_getLoop hw3, Result.andThen, hset]
            · refine ⟨.bool true, rfl, .bool true, h3.set b (.loop t0 ps as bd), s3, hk ▸ .refl _, e3, .bool _, ?_⟩
              have hle := p1.le.trans p3.le
              have hb3 : e3 b = some ⟨n, 0, sz⟩ := hle.of _ _ hb
              have hlive : ∀ b', live (h3.set b (.loop t0 ps as bd)) b' → b' = b ∨ (b' ≠ b ∧ live h3 b') := fun b' hl => by
                by_cases hbb : b' = b
                · exact .inl hbb
                · refine .inr ⟨hbb, ?_⟩
                  cases hh : h3.has b with
                  | false => rw [T.set_off h3 b _ hh] at hl; exact hl
                  | true => unfold live at hl ⊢; rwa [T.get_set .gone h3 b b' _ hh, if_neg hbb] at hl
              have hgetne : ∀ b', b' ≠ b → (h3.set b (.loop t0 ps as bd)).get .gone b' = h3.get .gone b' := fun b' hbb => by
                cases hh : h3.has b with
                | false => rw [T.set_off h3 b _ hh]
                | true => rw [T.get_set .gone h3 b b' _ hh, if_neg hbb]
              refine ⟨hle, fun b' hb' => ?_, Nat.le_trans p1.up p3.up, p3.free, ⟨fun b' hl => ?_, fun b1 b2 x1 x2 q1 q2 y1 y2 hn12 => ?_, by simpa using p3.sim.big, fun m (hm : e3.base.prot m) => (show (w3.heap.setIfInBounds n _)[m]? = _ by rw [Array.getElem?_setIfInBounds_ne (by have ha := hs.above b _ hlb hb; rw [hle.base] at hm; simp only at ha; intro hq; subst hq; exact ha hm)]; exact p3.sim.old m hm), fun b' x hl hx' => ?_⟩, fun b' x hl hx' => ?_, fun m hm hkm => ?_, ?_, ?_, ?_, ?_⟩
              · rw [p3.low b' (Nat.lt_of_lt_of_le hb' p1.up), p1.low b' hb']
              · rcases hlive b' hl with rfl | ⟨hbb, hl3⟩
                · refine ⟨⟨n, 0, sz⟩, .loop lp, hb3, by simp [hn3], ?_⟩
                  cases hh : h3.has b' with
                  | false =>
                    rw [T.set_off h3 b' _ hh] at hl
                    exact (hl (T.get_off .gone h3 b' hh)).elim
                  | true =>
                    rw [T.get_set .gone h3 b' b' _ hh, if_pos rfl]
                    exact .loop l1 l2 l3 l4 l5 l6.has (fun i => (l6.val i).mono hle)
                · obtain ⟨x, o, g1, g2, g3⟩ := p3.sim.blk b' hl3
                  refine ⟨x, o, g1, ?_, by rw [hgetne b' hbb]; exact g3⟩
                  show (w3.heap.setIfInBounds n _)[x.n]? = _
                  rw [Array.getElem?_setIfInBounds_ne (Ne.symm (ho3 b' x hl3 g1))]; exact g2
              · rcases hlive b1 q1 with rfl | ⟨hb1, ql1⟩
                · rcases hlive b2 q2 with rfl | ⟨hb2, ql2⟩
                  · rfl
                  · rw [hb3] at y1; injection y1 with y1; subst y1
                    exact absurd hn12.symm (ho3 b2 x2 ql2 y2)
                · rcases hlive b2 q2 with rfl | ⟨hb2, ql2⟩
                  · rw [hb3] at y2; injection y2 with y2; subst y2
                    exact absurd hn12 (ho3 b1 x1 ql1 y1)
                  · exact p3.sim.inj b1 b2 x1 x2 ql1 ql2 y1 y2 hn12
              · rcases hlive b' hl with rfl | ⟨hbb, hl3⟩
                · rw [hb3] at hx'; injection hx' with hx'; subst hx'
                  rw [hle.base]; exact hs.above b' _ hlb hb
                · exact p3.sim.above b' x hl3 hx'
              · rcases hlive b' hl with rfl | ⟨hbb, hl3⟩
                · rw [hb3] at hx'; injection hx' with hx'; subst hx'
                  exact .inl ⟨b', _, hlb, hb, rfl⟩
                · rcases p3.dom b' x hl3 hx' with ⟨b0, x0, g1, g2, g3⟩ | g1
                  · rcases p1.dom b0 x0 g1 g2 with ⟨b00, x00, k1, k2, k3⟩ | k1
                    · exact .inl ⟨b00, x00, (gone_live k1).2, k2, k3.trans g3⟩
                    · exact .inr (g3 ▸ k1)
                  · have h5 := p1.size
                    have h6 : (w1.heap.setIfInBounds n (Obj.loop { lp with state := .busy })).size = w1.heap.size := by simp
                    simp only [h6] at g1
                    exact .inr (by omega)
              · have hmn : m ≠ n := fun he => hkm b _ hlb hb he.symm
                have hkg : ∀ b' x, live (h.set b .gone) b' → e b' = some x → x.n ≠ m := fun b' x hl hx' => hkm b' x (gone_live hl).2 hx'
                have h1m : m < w1.heap.size := Nat.lt_of_lt_of_le hm p1.size
                have hk1 := p1.out hm hkg
                show (w3.heap.setIfInBounds n _)[m]? = _
                rw [Array.getElem?_setIfInBounds_ne (Ne.symm hmn), p3.keep m (by simpa using h1m) hk1]
                show (w1.heap.setIfInBounds n _)[m]? = _
                rw [Array.getElem?_setIfInBounds_ne (Ne.symm hmn), p1.keep m hm hkg]
              · show w.heap.size ≤ (w3.heap.setIfInBounds n _).size
                have h5 := p1.size
                have h6 := p3.size
                simp at h6 ⊢
                omega
              · exact p3.os.trans p1.os
              · exact p3.tape.trans p1.tape
              · exact p3.output.trans p1.output
        | _ => rw [hB] at hk; subst hk; exact hr.elim
      | _ => rw [hA] at hk; subst hk; exact hr.elim
    · subst hk; exact hr.elim
  · subst hk; exact hr.elim
theorem region_ok {id : Nat} {ops : Array Oper} (hih : SoundRn P ih) (hpr : SoundPr P pr) (hr : (opers ops.toList P pr ih ops.toList t h s).good) (ha : AR D e t a) (hs : Sim e h w) (hf : Free e s) :
    (Code.region id ops false).wp P (LR D (opers ops.toList P pr ih ops.toList t h s) e s h w) a w :=
  wpIn_wide.1 (regionY_ok FW.wide (yieldV_ok hih hpr) hih hpr (.inl rfl) hr ha hs hf)
end Go.Ev
