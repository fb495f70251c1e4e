/- An evaluator of the model's code: a region that draws its order is followed rightly. An evaluator of the model's code: the rounds of a loop over a function. An evaluator of the model's code, nineteenth part: it is sound. An evaluator of the model's code: a function that ranges over a function. -/
import Derived.Test.YtnklmadmenkdoaaGreatQEvZb
import Derived.Test.YtnklmadmenkdoaaGreatQEvU
import Derived.RangeFuncLeaves
set_option linter.unusedVariables false
set_option linter.unusedSimpArgs false
set_option linter.unusedSectionVars false
namespace Go.Ev
variable {D : List Deferred}
variable {P : Program} {pr : Prims} {ih : Rn} {e : Env} {t : T V} {h : H} {s : Nat} {w : World} {a : Act} {o : Oper}
theorem count_le {p q : Nat → Bool} (h : ∀ x, q x = true → p x = true) : ∀ l : List Nat, l.countP q ≤ l.countP p
  | [] => Nat.le_refl _
  | x :: l => by
    rw [List.countP_cons, List.countP_cons]
    have := count_le h l
    cases hq : q x with
    | true => rw [h x hq]; simp; exact this
    | false => simp; omega
theorem count_lt {p q : Nat → Bool} (h : ∀ x, q x = true → p x = true) {i : Nat} (hp : p i = true) (hq : q i = false) : ∀ l : List Nat, i ∈ l → l.countP q < l.countP p
  | [], hi => by cases hi
  | x :: l, hi => by
    rw [List.countP_cons, List.countP_cons]
    rcases List.mem_cons.1 hi with rfl | hi
    · rw [hp, hq]; have := count_le h l; simp; omega
    · have := count_lt h hp hq l hi
      cases hx : q x with
      | true => rw [h x hx]; simp; exact this
      | false => simp; omega
def listedB (l : Array Bool) (j : Nat) : Bool := l.getD j false
theorem listed_set {l : Array Bool} {i : Nat} (hi : i < l.size) : listedB (l.setIfInBounds i true) = more (listedB l) i := by
  funext j
  unfold listedB more
  by_cases hj : j = i
  · subst hj; simp [hi]
  · simp only [Array.getD_eq_getD_getElem?]
    rw [Array.getElem?_setIfInBounds_ne (Ne.symm hj)]
    simp [hj]
theorem mem_ready' {all : List Oper} {l : Array Bool} {i : Nat} (hl : l.size = all.length) : i ∈ Region.ready .any all.toArray l ↔ ∃ o, all[i]? = some o ∧ listedB l i = false ∧ ∀ e ∈ o.after, Region.binds .any e = true → listedB l e.on = true := by
  unfold Region.ready
  rw [List.mem_filter, List.mem_range]
  simp only [List.size_toArray, Bool.and_eq_true, Bool.not_eq_true']
  constructor
  · rintro ⟨h1, h2, h3⟩
    have hget : all.toArray[i]? = some all[i] := by simp [h1]
    rw [hget] at h3
    simp only [Option.map_some, Option.getD_some] at h3
    refine ⟨all[i], by simp [h1], ?_, fun e he hb => ?_⟩
    · unfold listedB
      rw [Array.getD_eq_getD_getElem?] at h2 ⊢
      have hlt : i < l.size := by omega
      rw [Array.getElem?_eq_getElem hlt] at h2 ⊢
      simpa using h2
    · have := Array.all_eq_true_iff_forall_mem.1 h3 e he
      simp only [hb, Bool.not_true, Bool.false_or] at this
      exact this
  · rintro ⟨o, ho, h2, h3⟩
    have h1 : i < all.length := (List.getElem?_eq_some_iff.1 ho).1
    refine ⟨h1, ?_, ?_⟩
    · unfold listedB at h2
      rw [Array.getD_eq_getD_getElem?] at h2 ⊢
      have hlt : i < l.size := by omega
      rw [Array.getElem?_eq_getElem hlt] at h2 ⊢
      simpa using h2
    · have hget : all.toArray[i]? = some o := by simpa using ho
      rw [hget]
      simp only [Option.map_some, Option.getD_some]
      rw [Array.all_eq_true_iff_forall_mem]
      intro e he
      cases hb : Region.binds .any e with
      | false => rfl
      | true => have h4 := h3 e he hb; unfold listedB at h4; rw [h4]; rfl
section
variable {all : List Oper} {σ : Nat → St} {v : Nat → V} {b : Nat → B} {c : Nat → Nat} {t0 : T V} {h0 : H} {s0 lim : Nat} {w0 : World}
variable (R : Rgn all P pr ih t0 h0 s0 lim σ v b c)
include R
theorem Rgn.all_listed {l : Array Bool} (hl : l.size = all.length) (hr : Region.ready .any all.toArray l = []) : ∀ n i, i < n → i < all.length → listedB l i = true
  | 0, i, h1, h2 => by omega
  | n + 1, i, h1, h2 => by
    cases hLi : listedB l i with
    | true => rfl
    | false =>
      obtain ⟨o, ho⟩ := R.at h2
      have : i ∈ Region.ready .any all.toArray l := (mem_ready' hl).2 ⟨o, ho, hLi, fun e he hb => by
        have := R.hd.edge i o ho e he hb
        exact Rgn.all_listed hl hr n e.on (by omega) (by omega)⟩
      rw [hr] at this; cases this
theorem Rgn.any (hih : SoundRn P ih) (hpr : SoundPr P pr) {Q : Exit → Act → World → Prop} (hQ : ∀ L ρ tX g sX a w, Inv D all t0 h0 s0 lim σ v b c e w0 L ρ tX g sX a w → (∀ i, i < all.length → L i = true) → Q .normal a w) :
    ∀ (f : Nat) (l : Array Bool) (a : Act) (w : World), l.size = all.length → (List.range all.length).countP (fun i => !listedB l i) ≤ f → Closed all (listedB l) → (∃ ρ tX g sX, Inv D all t0 h0 s0 lim σ v b c e w0 (listedB l) ρ tX g sX a w) → wpAny P .any all.toArray Q f l a w
  | 0, l, a, w, hl, hf, cl, hI => by
    have hall : ∀ i, i < all.length → listedB l i = true := fun i hi => by
      cases hLi : listedB l i with
      | true => rfl
      | false =>
        have : 0 < (List.range all.length).countP (fun i => !listedB l i) := List.countP_pos_iff.2 ⟨i, List.mem_range.2 hi, by simp [hLi]⟩
        omega
    obtain ⟨ρ, tX, g, sX, I⟩ := hI
    refine ⟨?_, hQ _ _ _ _ _ _ _ I hall⟩
    rw [List.eq_nil_iff_forall_not_mem]
    intro i hi
    obtain ⟨o, ho, h1, _⟩ := (mem_ready' hl).1 hi
    rw [hall i (R.lt ho)] at h1; cases h1
  | f + 1, l, a, w, hl, hf, cl, hI => by
    obtain ⟨ρ, tX, g, sX, I⟩ := hI
    refine ⟨fun hr => hQ _ _ _ _ _ _ _ I (fun i hi => R.all_listed hl hr (i + 1) i (by omega) hi), fun i hi => ?_⟩
    obtain ⟨o, ho, h1, h2⟩ := (mem_ready' hl).1 hi
    have hi' := R.lt ho
    refine I.step R hih hpr cl ho h2 h1 (fun ρ' tX' g' s' a' w' I' => ?_)
    refine Rgn.any hih hpr hQ f (l.setIfInBounds i true) a' w' (by simpa using hl) ?_ ?_ ?_
    · rw [listed_set (by omega)]
      have := count_lt (p := fun j => !listedB l j) (q := fun j => !more (listedB l) i j) (fun x hx => by
        unfold more at hx
        cases hlx : listedB l x with
        | true => rw [hlx] at hx; cases hx
        | false => rfl) (i := i) (by simp [h1]) (by simp [more_self]) (List.range all.length) (List.mem_range.2 hi')
      omega
    · rw [listed_set (by omega)]
      intro j oj hoj hlj e he hb
      by_cases hji : j = i
      · subst hji
        rw [ho] at hoj; injection hoj with hoj; subst hoj
        unfold more; rw [h2 e he hb]; rfl
      · rw [more_ne hji] at hlj
        unfold more; rw [cl j oj hoj hlj e he hb]; rfl
    · rw [listed_set (by omega)]; exact ⟨ρ', tX', g', s', I'⟩
end
/-- A region that draws its order. -/
theorem drawn_ok {id : Nat} {ops : Array Oper} (hm : P.follows .mixedOrders = true) (hih : SoundRn P ih) (hpr : SoundPr P pr) (hr : (drawn ops.toList P pr ih t h s).good) (ha : AR D e t a) (hs : Sim e h w) (hf : Free e s) :
    (Code.region id ops true).wp P (LR D (drawn ops.toList P pr ih t h s) e s h w) a w := by
  unfold drawn at hr ⊢
  obtain ⟨hd, hres⟩ := bif_ok rfl (by simp [RO.good]) hr
  rw [← hres]
  rw [← hres] at hr
  generalize hrr : dpass ops.toList (masks ops.toList []) (Nat.add s (makes ops.toList)) P pr ih ops.toList 0 t h (Nat.add s (makes ops.toList)) s [] [] [] = r at hr ⊢
  obtain ⟨σ, v, b, c, h1, tr, h3, h4⟩ := dpass_ok (all := ops.toList) (l := ops.toList) (pre := []) rfl hrr hr
  simp only [List.length_nil] at h1 tr
  have R : Rgn ops.toList P pr ih t h s (s + makes ops.toList) σ v b c := ⟨drawOk_ok hd, tr, h1, h4⟩
  subst h3
  refine wp_region_any hm ?_
  have hsz : ops.toList.length = ops.size := by simp
  have := R.any (e := e) (w0 := { w with drawn := w.drawn + 1 }) hih hpr (Q := LR D (.norm (σ ops.toList.length).t (addAll (σ ops.toList.length).al (σ ops.toList.length).g) (σ ops.toList.length).s) e s h w) (fun L ρ tX g sX a' w' I hall => by
    obtain ⟨k1, k2⟩ := I.done R hall
    exact ⟨rfl, ρ, k1, Post.drew (w₁ := { w with drawn := w.drawn + 1 }) rfl rfl rfl rfl k2⟩) ops.size (Array.replicate ops.size false) a { w with drawn := w.drawn + 1 } (by simp) (by
      have := List.countP_le_length (p := fun i => !listedB (Array.replicate ops.size false) i) (l := List.range ops.toList.length)
      simpa using this) (fun j o hj hl => by
        unfold listedB at hl
        rw [Array.getD_eq_getD_getElem?, Array.getElem?_replicate] at hl
        split at hl <;> cases hl) (by
        have hnone : ∀ j, listedB (Array.replicate ops.size false) j = false := fun j => by
          unfold listedB
          rw [Array.getD_eq_getD_getElem?, Array.getElem?_replicate]
          split <;> rfl
        refine ⟨e, t, h, s + makes ops.toList, ha, ⟨fun d => rfl, fun j o d _ hl => (by rw [hnone] at hl; cases hl), fun d _ => rfl⟩, PX.refl (hs.drew _ rfl), Nat.le_refl _, .inr ⟨fun i _ _ => hnone i, by rw [R.z], by rw [R.z]⟩, fun i _ _ hl => (by rw [hnone] at hl; cases hl), fun i _ _ hl => (by rw [hnone] at hl; cases hl), fun i i' _ _ _ _ hl => (by rw [hnone] at hl; cases hl), fun x hx => hf x (by omega), fun i hi hc _ => hf _ (R.qlim hc hi).1⟩)
  simpa using this
end Go.Ev
namespace Go.Ev
variable {D : List Deferred}
variable {P : Program} {pr : Prims} {ih : Rn} {e : Env} {t : T V} {h : H} {s : Nat} {w : World} {a : Act} {r : RO} {k : K} {o : Oper}
theorem noDefer_ok : ∀ {l : List Oper}, noDefer l = true → ∀ o ∈ l, ∀ c, o.op ≠ .defer c
  | [], h, o, ho, c, hc => by cases ho
  | p :: l, h, o, ho, c, hc => by
    have e1 : ∀ q : Oper, noDefer (q :: l) = (match q.op with | .defer _ => false | _ => noDefer l) := fun _ => rfl
    rw [e1] at h
    split at h
    · cases h
    · rename_i hp
      rcases List.mem_cons.1 ho with rfl | ho
      · exact hp _ hc
      · exact noDefer_ok h o ho c hc
theorem runR_ok (l : Nat) (hih : SoundRn P ih) (hpr : SoundPr P pr) : ∀ n c t h s, (runR P pr ih n c t h s).good → ∀ D e a w, AR D e t a → Sim e h w → Free e s → c.wpIn (Fence.wide.inRound l) 0 P (LR D (runR P pr ih n c t h s) e s h w) a w
  | 0, c, t, h, s, hr, D, e, a, w, ha, hs, hf => hr.elim
  | n + 1, c, t, h, s, hr, D, e, a, w, ha, hs, hf => by
    cases c with
    | skip => exact wpIn_skip ⟨rfl, e, ha, Post.refl hs hf⟩
    | seq x y =>
      change (match runR P pr ih n x t h s with | .norm t h s => runR P pr ih n y t h s | _ => .err 195 : RO).good at hr
      show (Code.seq x y).wpIn _ 0 P (LR D (match runR P pr ih n x t h s with | .norm t h s => runR P pr ih n y t h s | _ => .err 195 : RO) e s h w) a w
      have body := runR_ok l hih hpr n x t h s
      cases hres : runR P pr ih n x t h s with
      | norm t' h' s' =>
        rw [hres] at hr body
        dsimp only at hr ⊢
        refine wpIn_seq (wpIn_mono (body trivial D e a w ha hs hf) (fun x1 a1 w1 hq => ?_))
        obtain ⟨rfl, e', ha', hp⟩ := hq
        exact wpIn_mono (runR_ok l hih hpr n y t' h' s' hr D e' a1 w1 ha' hp.sim hp.free) (fun _ _ _ q => LR.trans hp q)
      | _ => rw [hres] at hr; exact hr.elim
    | block id x =>
      change (match runR P pr ih n x t h s with | .norm t h s => .norm t h s | _ => .err 195 : RO).good at hr
      show (Code.block id x).wpIn _ 0 P (LR D (match runR P pr ih n x t h s with | .norm t h s => .norm t h s | _ => .err 195 : RO) e s h w) a w
      have body := runR_ok l hih hpr n x t h s
      cases hres : runR P pr ih n x t h s with
      | norm t' h' s' =>
        rw [hres] at hr body
        dsimp only at hr ⊢
        refine wpIn_block (wpIn_mono (body trivial D e a w ha hs hf) (fun x1 a1 w1 hq => ?_))
        obtain ⟨rfl, hq'⟩ := hq
        exact ⟨rfl, hq'⟩
      | _ => rw [hres] at hr; exact hr.elim
    | region id ops d =>
      cases d with
      | true => exact hr.elim
      | false =>
        change (bif noDefer ops.toList then opersY noYl ops.toList P pr ih ops.toList t h s else .err 196 : RO).good at hr
        show (Code.region id ops false).wpIn _ 0 P (LR D (bif noDefer ops.toList then opersY noYl ops.toList P pr ih ops.toList t h s else .err 196 : RO) e s h w) a w
        cases hd : noDefer ops.toList with
        | false => rw [hd] at hr; exact hr.elim
        | true =>
          rw [hd] at hr
          exact regionY_ok (FW.round l) noYl_ok hih hpr (.inr (noDefer_ok hd)) hr ha hs hf
    | cond c x y =>
      change (opnd t c (fun v => condR (runR P pr ih n x t h s) (runR P pr ih n y t h s) v)).good at hr
      show (Code.cond c x y).wpIn _ 0 P (LR D (opnd t c (fun v => condR (runR P pr ih n x t h s) (runR P pr ih n y t h s) v)) e s h w) a w
      obtain ⟨v, h1, hv⟩ := opnd_ok (a := a) (f := fun v => condR (runR P pr ih n x t h s) (runR P pr ih n y t h s) v) rfl hr ha
      rw [← h1] at hr ⊢
      generalize hc : a.eval c = cv at hv
      unfold condR at hr ⊢
      split at hr
      · cases hv
        exact wpIn_cond_true hc (runR_ok l hih hpr n x t h s hr D e a w ha hs hf)
      · cases hv
        exact wpIn_cond_false hc (runR_ok l hih hpr n y t h s hr D e a w ha hs hf)
      · exact hr.elim
    | _ => exact hr.elim
theorem putPs_ok : ∀ {ps : List Nat} {vs : List V} {t t1 : T V} {xs : List Value} {tm : Array Value}, putPs ps vs t = some t1 → TR e t tm → VRs e vs xs →
    xs.length = ps.length ∧ TR e t1 ((ps.zip xs).foldl (fun tm (p, v) => tm.setIfInBounds p v) tm)
  | [], [], t, t1, _, tm, hk, ht, .nil => by injection hk with hk; subst hk; exact ⟨rfl, ht⟩
  | [], v :: vs, t, t1, _, tm, hk, ht, .cons _ _ => by cases hk
  | p :: ps, [], t, t1, _, tm, hk, ht, .nil => by cases hk
  | p :: ps, v :: vs, t, t1, _, tm, hk, ht, .cons hv hvs => by
    change putPs ps vs (t.set p v) = some t1 at hk
    obtain ⟨h1, h2⟩ := putPs_ok hk (ht.put (d := p) hv) hvs
    exact ⟨by simp [h1], by simpa using h2⟩
/-- A block that no number stands for is turned. -/
theorem Sim.poke (hs : Sim e h w) {n : Nat} {ob : Obj} (hab : ¬ e.base.prot n) (hl : ∀ b x, live h b → e b = some x → x.n ≠ n) : Sim e h { w with heap := w.heap.setIfInBounds n ob } :=
  ⟨fun b hb => by
    obtain ⟨x, o, g1, g2, g3⟩ := hs.blk b hb
    refine ⟨x, o, g1, ?_, g3⟩
    show (w.heap.setIfInBounds n ob)[x.n]? = _
    rw [Array.getElem?_setIfInBounds_ne (Ne.symm (hl b x hb g1))]; exact g2, hs.inj, by simpa using hs.big, fun m (hm : e.base.prot m) => (show (w.heap.setIfInBounds n ob)[m]? = _ by rw [Array.getElem?_setIfInBounds_ne (by intro hq; subst hq; exact hab hm)]; exact hs.old m hm), hs.above⟩
theorem Sim.in {x : Loc} {b : Nat} (hs : Sim e h w) (hl : live h b) (hx : e b = some x) : x.n < w.heap.size := by
  obtain ⟨x', o, g1, g2, _⟩ := hs.blk b hl
  rw [hx] at g1; injection g1 with g1; subst g1
  exact (Array.getElem?_eq_some_iff.1 g2).1
/-- What a piece leaves lies outside of a block that it did not know. -/
theorem Post.out {e' : Env} {s' : Nat} {h' : H} {w' : World} (p : Post e s h w e' s' h' w') {n : Nat} (hn : n < w.heap.size) (ho : ∀ b x, live h b → e b = some x → x.n ≠ n) : ∀ b x, live h' b → e' b = some x → x.n ≠ n := fun b x hl hx => by
  rcases p.dom b x hl hx with ⟨b0, x0, g1, g2, g3⟩ | g1
  · rw [← g3]; exact ho b0 x0 g1 g2
  · omega
theorem loop_at (hs : Sim e h w) {b : Nat} {t0 : T V} {ps : List Nat} {as bd : Code} (hb : h.get .gone b = .loop t0 ps as bd) {x : Loc} (hx : e b = some x) :
    live h b ∧ x.sh = 0 ∧ ∃ lp, w.heap[x.n]? = some (.loop lp) ∧ lp.state = .ready ∧ lp.pending = none ∧ lp.params.toList = ps ∧ lp.assign = as ∧ lp.body = bd ∧ TR e t0 lp.tmps := by
  have hl : live h b := live_of_cells hb (by simp)
  obtain ⟨x', o', h1, h2, h3⟩ := hs.blk b hl
  rw [hx] at h1; injection h1 with h1; subst h1
  rw [hb] at h3
  cases h3 with
  | loop g1 g2 g3 g4 g5 g6 g7 => exact ⟨hl, rfl, _, h2, g1, g2, g3, g4, g5, ⟨g6, g7⟩⟩
theorem run_getLoop {n : Nat} {lp : Loop} (hw : w.heap[n]? = some (.loop lp)) : (Instr.getLoop n).run P w = .ok lp w := by
  simp [Instr.getLoop, run_getObj (P := P) hw (by simp), Result.andThen]
theorem set_same {n : Nat} {ob : Obj} (hw : w.heap[n]? = some ob) : w.heap.setIfInBounds n ob = w.heap := by
  apply Array.ext_getElem?
  intro j
  by_cases hj : j = n
  · subst hj; rw [hw]; simp [(Array.getElem?_eq_some_iff.1 hw).1]
  · rw [Array.getElem?_setIfInBounds_ne (Ne.symm hj)]
theorem gone_live {b b' : Nat} (hl : live (h.set b .gone) b') : b' ≠ b ∧ live h b' := by
  cases hb : h.has b with
  | false =>
    rw [T.set_off h b _ hb] at hl
    refine ⟨fun he => ?_, hl⟩
    subst he
    exact hl (T.get_off .gone h b' hb)
  | true =>
    unfold live at hl ⊢
    rw [T.get_set .gone h b b' _ hb] at hl
    by_cases hbb : b' = b
    · rw [if_pos hbb] at hl; exact absurd rfl hl
    · rw [if_neg hbb] at hl; exact ⟨hbb, hl⟩
theorem yieldV_ok (hih : SoundRn P ih) (hpr : SoundPr P pr) : YlOk Fence.wide P (yieldV P pr ih) := by
  intro b args h s k hr e w xs hx hs hf n sh sz hb
  refine ⟨rfl, ?_⟩
  generalize hk : yieldV P pr ih b args h s k = r at hr ⊢
  unfold yieldV at hk
  split at hk
  · rename_i t0 ps as bd hbl
    split at hk
    · rename_i t1 hps
      obtain ⟨hlb, hsh, lp, hw, l1, l2, l3, l4, l5, l6⟩ := loop_at hs hbl hb
      simp only at hsh hw
      subst hsh
      obtain ⟨hlen, htr⟩ := putPs_ok hps l6 hx
      have hnw := (Array.getElem?_eq_some_iff.1 hw).1
      cases hA : runR P pr ih 100 as t1 (h.set b .gone) s with
      | norm t2 h2 s2 =>
        rw [hA] at hk
        dsimp only at hk
        cases hB : runR P pr ih 100 bd t2 h2 s2 with
        | norm t3 h3 s3 =>
          rw [hB] at hk
          dsimp only at hk
          have hsz : ¬ ((⟨xs⟩ : Array Value).size ≠ lp.params.size) := by
            have : lp.params.size = ps.length := by rw [← l3]; simp
            simp [this, hlen]
          refine ⟨lp.fn, (lp.params.zip ⟨xs⟩).foldl (fun tmps (t, a) => tmps.setIfInBounds t a) lp.tmps, lp.assign, lp.body, ?_, ?_⟩
          · simp only [Instr.yield, Sem.run_bind, run_getLoop hw, Result.andThen, if_neg hsz, Sem.run_pure]
          · have hfold : (lp.params.zip ⟨xs⟩).foldl (fun tmps (t, a) => tmps.setIfInBounds t a) lp.tmps = (ps.zip xs).foldl (fun tm (p, v) => tm.setIfInBounds p v) lp.tmps := by
              rw [← Array.foldl_toList, Array.toList_zip, l3]
            rw [hfold, l4, l5]
            have pg := gone_post hs hf (b := b)
            have hog : ∀ b' x, live (h.set b .gone) b' → e b' = some x → x.n ≠ n := fun b' x hl hx' hn => by
              obtain ⟨g1, g2⟩ := gone_live hl
              exact g1 (hs.inj b' b x _ g2 hlb hx' hb hn)
            refine roundIn_of_wpIn trivial (wpIn_mono (runR_ok n hih hpr 100 as t1 (h.set b .gone) s (by rw [hA]; trivial) [] e _ w ⟨htr, rfl⟩ pg.sim hf) (fun x1 a1 w1 hq => ?_))
            rw [hA] at hq
            obtain ⟨rfl, e1, ha1, p1⟩ := hq
            have hw1 : w1.heap[n]? = some (.loop lp) := by rw [p1.keep n hnw hog]; exact hw
            have hn1 := (Array.getElem?_eq_some_iff.1 hw1).1
            have ho1 := p1.out hnw hog
            refine ⟨{ w1 with heap := w1.heap.setIfInBounds n (.loop { lp with state := .busy }) }, ?_, ?_⟩
            · simp [Instr.beginRound, run_getLoop hw1, Result.andThen, run_setObj (P := P) hw1 (by simp), l1]
            have hs2 : Sim e1 h2 { w1 with heap := w1.heap.setIfInBounds n (.loop { lp with state := .busy }) } := p1.sim.poke (by rw [p1.le.base]; exact hs.above b _ hlb hb) ho1
            refine wpIn_mono (runR_ok n hih hpr 100 bd t2 h2 s2 (by rw [hB]; trivial) [] e1 a1 _ ha1 hs2 p1.free) (fun x2 a2 w3 hq => ?_)
            rw [hB] at hq
            obtain ⟨rfl, e3, ha3, p3⟩ := hq
            have hnb : n < (w1.heap.setIfInBounds n (Obj.loop { lp with state := .busy })).size := by simpa using hn1
            have hw3 : w3.heap[n]? = some (.loop { lp with state := .busy }) := by
              rw [p3.keep n hnb ho1]; simp [hn1]
            have ho3 := p3.out hnb ho1
            have hn3 := (Array.getElem?_eq_some_iff.1 hw3).1
            refine ⟨.bool true, { w3 with heap := w3.heap.setIfInBounds n (.loop lp) }, ?_, ?_⟩
            · have hset := run_setObj (P := P) (ob' := .loop lp) hw3 (by simp)
              obtain ⟨st, pe, fn, tm, pm, as', bd', df⟩ := lp
              simp only at l1 l2
              subst l1 l2
              simp [Instr.endRound, run_getLoop hw3, Result.andThen, hset]
            · refine ⟨.bool true, rfl, .bool true, h3.set b (.loop t0 ps as bd), s3, hk ▸ .refl _, e3, .bool _, ?_⟩
              have hle := p1.le.trans p3.le
              have hb3 : e3 b = some ⟨n, 0, sz⟩ := hle.of _ _ hb
              have hlive : ∀ b', live (h3.set b (.loop t0 ps as bd)) b' → b' = b ∨ (b' ≠ b ∧ live h3 b') := fun b' hl => by
                by_cases hbb : b' = b
                · exact .inl hbb
                · refine .inr ⟨hbb, ?_⟩
                  cases hh : h3.has b with
                  | false => rw [T.set_off h3 b _ hh] at hl; exact hl
                  | true => unfold live at hl ⊢; rwa [T.get_set .gone h3 b b' _ hh, if_neg hbb] at hl
              have hgetne : ∀ b', b' ≠ b → (h3.set b (.loop t0 ps as bd)).get .gone b' = h3.get .gone b' := fun b' hbb => by
                cases hh : h3.has b with
                | false => rw [T.set_off h3 b _ hh]
                | true => rw [T.get_set .gone h3 b b' _ hh, if_neg hbb]
              refine ⟨hle, fun b' hb' => ?_, Nat.le_trans p1.up p3.up, p3.free, ⟨fun b' hl => ?_, fun b1 b2 x1 x2 q1 q2 y1 y2 hn12 => ?_, by simpa using p3.sim.big, fun m (hm : e3.base.prot m) => (show (w3.heap.setIfInBounds n _)[m]? = _ by rw [Array.getElem?_setIfInBounds_ne (by have ha := hs.above b _ hlb hb; rw [hle.base] at hm; simp only at ha; intro hq; subst hq; exact ha hm)]; exact p3.sim.old m hm), fun b' x hl hx' => ?_⟩, fun b' x hl hx' => ?_, fun m hm hkm => ?_, ?_, ?_, ?_, ?_⟩
              · rw [p3.low b' (Nat.lt_of_lt_of_le hb' p1.up), p1.low b' hb']
              · rcases hlive b' hl with rfl | ⟨hbb, hl3⟩
                · refine ⟨⟨n, 0, sz⟩, .loop lp, hb3, by simp [hn3], ?_⟩
                  cases hh : h3.has b' with
                  | false =>
                    rw [T.set_off h3 b' _ hh] at hl
                    exact (hl (T.get_off .gone h3 b' hh)).elim
                  | true =>
                    rw [T.get_set .gone h3 b' b' _ hh, if_pos rfl]
                    exact .loop l1 l2 l3 l4 l5 l6.has (fun i => (l6.val i).mono hle)
                · obtain ⟨x, o, g1, g2, g3⟩ := p3.sim.blk b' hl3
                  refine ⟨x, o, g1, ?_, by rw [hgetne b' hbb]; exact g3⟩
                  show (w3.heap.setIfInBounds n _)[x.n]? = _
                  rw [Array.getElem?_setIfInBounds_ne (Ne.symm (ho3 b' x hl3 g1))]; exact g2
              · rcases hlive b1 q1 with rfl | ⟨hb1, ql1⟩
                · rcases hlive b2 q2 with rfl | ⟨hb2, ql2⟩
                  · rfl
                  · rw [hb3] at y1; injection y1 with y1; subst y1
                    exact absurd hn12.symm (ho3 b2 x2 ql2 y2)
                · rcases hlive b2 q2 with rfl | ⟨hb2, ql2⟩
                  · rw [hb3] at y2; injection y2 with y2; subst y2
                    exact absurd hn12 (ho3 b1 x1 ql1 y1)
                  · exact p3.sim.inj b1 b2 x1 x2 ql1 ql2 y1 y2 hn12
              · rcases hlive b' hl with rfl | ⟨hbb, hl3⟩
                · rw [hb3] at hx'; injection hx' with hx'; subst hx'
                  rw [hle.base]; exact hs.above b' _ hlb hb
                · exact p3.sim.above b' x hl3 hx'
              · rcases hlive b' hl with rfl | ⟨hbb, hl3⟩
                · rw [hb3] at hx'; injection hx' with hx'; subst hx'
                  exact .inl ⟨b', _, hlb, hb, rfl⟩
                · rcases p3.dom b' x hl3 hx' with ⟨b0, x0, g1, g2, g3⟩ | g1
                  · rcases p1.dom b0 x0 g1 g2 with ⟨b00, x00, k1, k2, k3⟩ | k1
                    · exact .inl ⟨b00, x00, (gone_live k1).2, k2, k3.trans g3⟩
                    · exact .inr (g3 ▸ k1)
                  · have h5 := p1.size
                    have h6 : (w1.heap.setIfInBounds n (Obj.loop { lp with state := .busy })).size = w1.heap.size := by simp
                    simp only [h6] at g1
                    exact .inr (by omega)
              · have hmn : m ≠ n := fun he => hkm b _ hlb hb he.symm
                have hkg : ∀ b' x, live (h.set b .gone) b' → e b' = some x → x.n ≠ m := fun b' x hl hx' => hkm b' x (gone_live hl).2 hx'
                have h1m : m < w1.heap.size := Nat.lt_of_lt_of_le hm p1.size
                have hk1 := p1.out hm hkg
                show (w3.heap.setIfInBounds n _)[m]? = _
                rw [Array.getElem?_setIfInBounds_ne (Ne.symm hmn), p3.keep m (by simpa using h1m) hk1]
                show (w1.heap.setIfInBounds n _)[m]? = _
                rw [Array.getElem?_setIfInBounds_ne (Ne.symm hmn), p1.keep m hm hkg]
              · show w.heap.size ≤ (w3.heap.setIfInBounds n _).size
                have h5 := p1.size
                have h6 := p3.size
                simp at h6 ⊢
                omega
              · exact p3.os.trans p1.os
              · exact p3.tape.trans p1.tape
              · exact p3.output.trans p1.output
        | _ => rw [hB] at hk; subst hk; exact hr.elim
      | _ => rw [hA] at hk; subst hk; exact hr.elim
    · subst hk; exact hr.elim
  · subst hk; exact hr.elim
theorem region_ok {id : Nat} {ops : Array Oper} (hih : SoundRn P ih) (hpr : SoundPr P pr) (hr : (opers ops.toList P pr ih ops.toList t h s).good) (ha : AR D e t a) (hs : Sim e h w) (hf : Free e s) :
    (Code.region id ops false).wp P (LR D (opers ops.toList P pr ih ops.toList t h s) e s h w) a w :=
  wpIn_wide.1 (regionY_ok FW.wide (yieldV_ok hih hpr) hih hpr (.inl rfl) hr ha hs hf)
end Go.Ev
namespace Go.Ev
variable {D : List Deferred}
variable {P : Program} {pr : Prims} {ih : Rn} {e : Env} {t : T V} {h : H} {s : Nat} {w : World} {a : Act} {r : RO} {k : K} {o : Oper}
theorem loop_arrives (hih : SoundRn P ih) {c : Code} (hr : (cLoop c P pr ih t h s).good) (ha : AR D e t a) (hs : Sim e h w) (hf : Free e s) (b : Frame) (k : List Item) (cs : List Frame) :
    ∃ x a' w', LR D (cLoop c P pr ih t h s) e s h w x a' w' ∧ Arrives P (lone (b.at a (.code c :: .inLoop c :: k)) cs w) b k cs x a' w' := by
  unfold cLoop at hr ⊢
  obtain ⟨x1, a1, w1, hq, harr⟩ := hih.wp c t h s (RO.good_bnd hr) D e a w ha hs hf b (.inLoop c :: k) cs
  obtain ⟨l, g1, g2, g3⟩ := hq.leaf
  have hsub := g1.bnd (fun t h s => ih (.loop c) t h s) .exit .ret
  cases l with
  | norm t' h' s' =>
    obtain ⟨rfl, e', ha', hp⟩ := g3
    obtain ⟨x2, a2, w2, hq2, harr2⟩ := hih.loop c t' h' s' (hsub.good hr) D e' a1 w1 ha' hp.sim hp.free b k cs
    exact ⟨x2, a2, w2, LR.sub hsub (LR.trans hp hq2), .of_steps (Steps.trans harr (.one step_inLoop)) harr2⟩
  | exit id t' h' s' =>
    obtain ⟨rfl, hq'⟩ := g3
    exact ⟨_, a1, w1, LR.sub hsub ⟨rfl, hq'⟩, .pass (x := .inLoop c) rfl (fun _ _ => .inl (by simp)) harr⟩
  | ret t' h' s' =>
    obtain ⟨rfl, hq'⟩ := g3
    exact ⟨_, a1, w1, LR.sub hsub ⟨rfl, hq'⟩, .pass (x := .inLoop c) rfl (fun _ _ => .inl (by simp)) harr⟩
  | err n => exact g3.elim
  | or _ _ => exact g2.elim
theorem step_sound (hm : P.follows .mixedOrders = true) (hih : SoundRn P ih) (hpr : SoundPr P pr) : SoundRn P (fun c t h s => codeF c P pr ih t h s) where
  loop := fun c t h s hr D e a w ha hs hf b k cs => loop_arrives (pr := pr) hih hr ha hs hf b k cs
  wp := fun c t h s hr D e a w ha hs hf => by
    cases c with
    | skip => exact wp_skip ⟨rfl, e, ha, Post.refl hs hf⟩
    | label l => exact wp_label ⟨rfl, e, ha, Post.refl hs hf⟩
    | region id ops d =>
      cases d with
      | false => exact region_ok hih hpr hr ha hs hf
      | true => exact drawn_ok hm hih hpr hr ha hs hf
    | seq x y =>
      change (cSeq x y P pr ih t h s).good at hr
      show (Code.seq x y).wp P (LR D (cSeq x y P pr ih t h s) e s h w) a w
      unfold cSeq at hr ⊢
      refine wp_seq (wp_mono (hih.wp x t h s (RO.good_bnd hr) D e a w ha hs hf) (fun x1 a1 w1 hq => ?_))
      obtain ⟨l, g1, g2, g3⟩ := hq.leaf
      have hsub := g1.bnd (fun t h s => ih y t h s) .exit .ret
      cases l with
      | norm t' h' s' =>
        obtain ⟨rfl, e', ha', hp⟩ := g3
        exact wp_mono (hih.wp y t' h' s' (hsub.good hr) D e' a1 w1 ha' hp.sim hp.free) (fun _ _ _ q => LR.sub hsub (LR.trans hp q))
      | exit id t' h' s' =>
        obtain ⟨rfl, hq'⟩ := g3
        exact LR.sub hsub ⟨rfl, hq'⟩
      | ret t' h' s' =>
        obtain ⟨rfl, hq'⟩ := g3
        exact LR.sub hsub ⟨rfl, hq'⟩
      | err n => exact g3.elim
      | or _ _ => exact g2.elim
    | cond c x y =>
      obtain ⟨v, h1, hv⟩ := opnd_ok (a := a) (t := t) (x := c) (f := fun v => condF x y ih t h s v) rfl hr ha
      generalize hc : a.eval c = cv at hv
      have h1' : codeF (.cond c x y) P pr ih t h s = condF x y ih t h s v := h1.symm
      show (Code.cond c x y).wp P (LR D (codeF (.cond c x y) P pr ih t h s) e s h w) a w
      have hr' : (condF x y ih t h s v).good := by rw [← h1']; exact hr
      rw [h1']
      clear h1 h1' hr
      unfold condF at hr' ⊢
      have hr := hr'
      clear hr'
      split at hr
      · cases hv
        exact wp_cond_true hc (hih.wp x t h s hr D e a w ha hs hf)
      · cases hv
        exact wp_cond_false hc (hih.wp y t h s hr D e a w ha hs hf)
      · cases hr
    | block id c =>
      change (cBlock id c P pr ih t h s).good at hr
      show (Code.block id c).wp P (LR D (cBlock id c P pr ih t h s) e s h w) a w
      unfold cBlock at hr ⊢
      refine wp_block (wp_mono (hih.wp c t h s (RO.good_bnd hr) D e a w ha hs hf) (fun x1 a1 w1 hq => ?_))
      obtain ⟨l, g1, g2, g3⟩ := hq.leaf
      have hsub := g1.bnd .norm (fun i t h s => bif Nat.beq i id then .norm t h s else .exit i t h s) .ret
      cases l with
      | norm t' h' s' =>
        obtain ⟨rfl, hq'⟩ := g3
        exact LR.sub hsub ⟨rfl, hq'⟩
      | ret t' h' s' =>
        obtain ⟨rfl, hq'⟩ := g3
        exact LR.sub hsub ⟨rfl, hq'⟩
      | exit i t' h' s' =>
        obtain ⟨rfl, hq'⟩ := g3
        unfold Exit.inBlock
        dsimp only
        change Sub (bif Nat.beq i id then .norm t' h' s' else .exit i t' h' s') _ at hsub
        rw [beq_eq] at hsub
        by_cases hi : i = id
        · rw [if_pos hi]
          simp only [hi, decide_true, cond_true] at hsub
          exact LR.sub hsub ⟨rfl, hq'⟩
        · rw [if_neg hi]
          simp only [hi, decide_false, cond_false] at hsub
          exact LR.sub hsub ⟨rfl, hq'⟩
      | err n => exact g3.elim
      | or _ _ => exact g2.elim
    | loop c =>
      intro b k cs
      obtain ⟨x, a', w', hq, harr⟩ := loop_arrives (pr := pr) (P := P) hih (c := c) hr ha hs hf b k cs
      exact ⟨x, a', w', hq, .of_steps (.one step_loop) harr⟩
    | exit id => exact wp_exit ⟨rfl, e, ha, Post.refl hs hf⟩
    | ret => exact wp_ret ⟨rfl, e, ha, Post.refl hs hf⟩
    | rangeFunc _ _ _ _ => cases hr
    | scope _ => cases hr
    | goto _ => cases hr
    | refuse _ => cases hr
/-- The evaluator is sound. -/
theorem run_sound (hm : P.follows .mixedOrders = true) (hpr : SoundPr P pr) : ∀ n, SoundRn P (run P pr n)
  | 0 => ⟨fun _ _ _ _ hr => hr.elim, fun _ _ _ _ hr => hr.elim⟩
  | n + 1 => step_sound hm (run_sound hm hpr n) hpr
end Go.Ev
namespace Go.Ev
variable {D : List Deferred} {P : Program} {pr : Prims} {ih : Rn} {e : Env} {t : T V} {h : H} {s : Nat} {w : World} {a : Act} {o : Oper}
def markOf (r : Nat) : Deferred := { target := .collected r, args := #[] }
/-- The loop over a function. -/
theorem wp_rangeFunc_once {f : Operand} {ps : Array Tmp} {as bd : Code} {g : FuncId} {caps : Array Value} {Q : Exit → Act → World → Prop} (hf : a.eval f = .func (.func g) #[] caps)
    (hcall : ∀ (lp : Loop), lp.state = .ready → lp.pending = none → lp.tmps = a.tmps → lp.params = ps → lp.assign = as → lp.body = bd → ∀ w1, w1 = (w.alloc (.deferred (some []))).alloc (.loop lp) →
      (callFunc g (#[.func (.yield (w.heap.size + 1)) #[] #[]] ++ caps)).run P w1 = .ok (.enter g (#[.func (.yield (w.heap.size + 1)) #[] #[]] ++ caps)) w1 ∧
      Calls P g (#[.func (.yield (w.heap.size + 1)) #[] #[]] ++ caps) w1 (fun en w' => ∃ x lp', en = .returned x ∧ w'.heap[w.heap.size + 1]? = some (.loop lp') ∧ lp'.state = .ready ∧ lp'.pending = none ∧
        Q .normal { a with defers := markOf w.heap.size :: a.defers } { w' with heap := w'.heap.setIfInBounds (w.heap.size + 1) (.loop { lp' with state := .exhausted }) })) :
    (Code.rangeFunc f ps as bd).wp P Q a w := by
  intro b k cs
  obtain ⟨h1, h2⟩ := hcall { state := .ready, pending := none, fn := b.fn, tmps := a.tmps, params := ps, assign := as, body := bd, defers := w.heap.size } rfl rfl rfl rfl rfl rfl _ rfl
  obtain ⟨fr1, hfr1⟩ : ∃ fr1 : Frame, fr1 = { fn := b.fn, tmps := a.tmps, todo := .inRangeFunc (w.heap.size + 1) :: k, defers := [markOf w.heap.size] ++ a.defers, mode := .run, kind := b.kind } := ⟨_, rfl⟩
  obtain ⟨en, w', fr', ⟨x, lp', rfl, hl, hst, hpe, hq⟩, hsteps, _, hleave⟩ := h2 (fr1 :: cs)
  refine ⟨.normal, _, _, hq, ?_⟩
  have hev : (b.at a (.code (.rangeFunc f ps as bd) :: k)).eval = a.eval := Frame.eval_at' b a _
  have s1 : step P (lone (b.at a (.code (.rangeFunc f ps as bd) :: k)) cs w) = .next (lone (Frame.enter P g (#[.func (.yield (w.heap.size + 1)) #[] #[]] ++ caps) .normal) (fr1 :: cs)
      ((w.alloc (.deferred (some []))).alloc (.loop { state := .ready, pending := none, fn := b.fn, tmps := a.tmps, params := ps, assign := as, body := bd, defers := w.heap.size }))) := by
    refine step_lone_go ?_
    have hent : (Instr.enterLoop b.fn a.tmps ps as bd none).run P w = .ok (w.heap.size + 1, [markOf w.heap.size]) ((w.alloc (.deferred (some []))).alloc (.loop { state := .ready, pending := none, fn := b.fn, tmps := a.tmps, params := ps, assign := as, body := bd, defers := w.heap.size })) := by
      have hsz : (w.alloc (.deferred (some []))).heap.size = w.heap.size + 1 := by show (w.heap.push _).size = _; simp
      have e0 : (Instr.enterLoop b.fn a.tmps ps as bd none).run P w = .ok ((w.alloc (.deferred (some []))).heap.size, [markOf w.heap.size]) ((w.alloc (.deferred (some []))).alloc (.loop { state := .ready, pending := none, fn := b.fn, tmps := a.tmps, params := ps, assign := as, body := bd, defers := w.heap.size })) := rfl
      rw [hsz] at e0
      exact e0
    have hev1 : fr1.eval f = .func (.func g) #[] caps := by rw [← hf, hfr1]; cases f <;> rfl
    have hres : (do let d ← resolve fr1.eval { callee := .value f, args := #[.const (.func (.yield (w.heap.size + 1)) #[] #[])], argTypes := #[] } 0; invoke d.target d.args : Sem Next).run P ((w.alloc (.deferred (some []))).alloc (.loop { state := .ready, pending := none, fn := b.fn, tmps := a.tmps, params := ps, assign := as, body := bd, defers := w.heap.size })) = .ok (.enter g (#[.func (.yield (w.heap.size + 1)) #[] #[]] ++ caps)) ((w.alloc (.deferred (some []))).alloc (.loop { state := .ready, pending := none, fn := b.fn, tmps := a.tmps, params := ps, assign := as, body := bd, defers := w.heap.size })) := by
      simp only [resolve, hev1, Deferred.ofValue, Sem.run_bind, Sem.run_pure, Result.andThen, invoke]
      have hmm : (#[] : Array Value) ++ Array.map fr1.eval #[Operand.const (.func (.yield (w.heap.size + 1)) #[] #[])] = #[.func (.yield (w.heap.size + 1)) #[] #[]] := by simp [Frame.eval]
      rw [hmm]
      exact h1
    have hent' : (Instr.enterLoop b.fn a.tmps ps as bd none).runT P w #[] = (.ok (w.heap.size + 1, [markOf w.heap.size]) ((w.alloc (.deferred (some []))).alloc (.loop { state := .ready, pending := none, fn := b.fn, tmps := a.tmps, params := ps, assign := as, body := bd, defers := w.heap.size })), Sem.events P (Instr.enterLoop b.fn a.tmps ps as bd none) w #[]) := by
      rw [Sem.runT_eq, hent]
    simp only [stepG, stepG.exec, Frame.at]
    rw [hent']
    simp only [GStep.bare_after, stepG.apply, if_true]
    rw [← hfr1]
    simp only [Sem.runT_eq]
    rw [hres]
    rfl
  have s2 : step P (lone fr' (fr1 :: cs) w') = .next (lone (fr1.finish x) cs w') := step_leave_returned hleave
  have s3 : step P (lone (fr1.finish x) cs w') = .next (lone (b.at { a with defers := markOf w.heap.size :: a.defers } k) cs { w' with heap := w'.heap.setIfInBounds (w.heap.size + 1) (.loop { lp' with state := .exhausted }) }) := by
    refine step_lone_go ?_
    have hfin : fr1.finish x = { fn := b.fn, tmps := a.tmps, todo := .endRangeFunc (w.heap.size + 1) :: k, defers := [markOf w.heap.size] ++ a.defers, mode := .run, kind := b.kind } := by rw [hfr1]; rfl
    rw [hfin]
    have hend : (Instr.endLoop (w.heap.size + 1)).run P w' = .ok none { w' with heap := w'.heap.setIfInBounds (w.heap.size + 1) (.loop { lp' with state := .exhausted }) } := by
      obtain ⟨st, pe, fn, tm, pm, as', bd', df⟩ := lp'
      simp only at hst hpe
      subst hst hpe
      simp [Instr.endLoop, Instr.getLoop, getObj, setObj, Sem.run, hl, Result.andThen]
    simp only [stepG, stepG.exec, Sem.runT_eq]
    rw [hend]
    simp only [GStep.bare_after]
    rfl
  exact .head s1 (Steps.trans hsteps (.head s2 (.one s3)))
end Go.Ev
