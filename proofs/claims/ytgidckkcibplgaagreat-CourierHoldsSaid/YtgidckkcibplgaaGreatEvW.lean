/- An evaluator of the model's code: a pass through a region that draws its order. An evaluator of the model's code: what a pass knows of a region that draws its order. -/
import Derived.Test.YtgidckkcibplgaaGreatEvT
set_option linter.unusedVariables false
set_option linter.unusedSimpArgs false
set_option linter.unusedSectionVars false
namespace Go.Ev
variable {D : List Deferred}
variable {P : Program} {pr : Prims} {ih : Rn} {e : Env} {t t' : T V} {h : H} {s : Nat} {w : World} {a : Act} {r : RO} {k : K} {o : Oper}
structure St where
  t : T V
  g : H
  s : Nat
  q : Nat
  al : List AL
theorem cls_cases (op : Op) : cls op = 0 ∨ cls op = 1 ∨ cls op = 2 ∨ cls op = 3 := by
  cases op <;> first | exact .inl rfl | exact .inr (.inl rfl) | exact .inr (.inr (.inl rfl)) | exact .inr (.inr (.inr rfl)) | skip
  case convert a b x => cases hq : Nat.beq a b <;> simp [cls, hq]
  case call c => obtain ⟨cal, args, at_⟩ := c; cases cal with
    | value _ => exact .inr (.inr (.inr rfl))
    | invoke _ _ => exact .inr (.inr (.inr rfl))
    | builtin b => cases b <;> first | exact .inr (.inl rfl) | exact .inr (.inr (.inr rfl))
/-- One operation of the pass: 0 not taken, 1 a value that leans on no memory, 2 a value that is read, 3 a block made, 4 whatever else. -/
inductive Stp (all : List Oper) (mks : List Nat) (P : Program) (pr : Prims) (ih : Rn) (i : Nat) (o : Oper) (σ : St) (v : V) (b : B) (σ' : St) : Nat → Prop where
  | skip (hw : want all σ.t o.guard = false) (hv : v = un) (hs : σ' = { σ with t := putT o.dst σ.t un }) : Stp all mks P pr ih i o σ v b σ' 0
  | pure {t' h' s'} (hw : want all σ.t o.guard = true) (hc : cls o.op = 0) (he : opF o.op P pr ih σ.t E0 0 kid0 = .norm t' h' s') (hv : v = t'.get un 0) (hs : σ' = { σ with t := putT o.dst σ.t v }) : Stp all mks P pr ih i o σ v b σ' 1
  | read {t' h' s'} (hw : want all σ.t o.guard = true) (hc : cls o.op = 1) (he : opF o.op P pr ih σ.t σ.g 0 kid0 = .norm t' h' s') (hv : v = t'.get un 0) (hs : σ' = { σ with t := putT o.dst σ.t v }) : Stp all mks P pr ih i o σ v b σ' 2
  | make {t' h' s'} (hw : want all σ.t o.guard = true) (hc : cls o.op = 2) (he : opF o.op P pr ih σ.t E0 σ.q kid = .norm t' h' s') (hv : v = t'.get un 0) (hb : b = h'.get .gone σ.q) (hs : σ' = { σ with t := putT o.dst σ.t v, q := σ.q + 1, al := ⟨i, σ.q, b⟩ :: σ.al }) : Stp all mks P pr ih i o σ v b σ' 3
  | eff {t' h' s'} (hw : want all σ.t o.guard = true) (hc : cls o.op = 3) (he : opF o.op P pr ih σ.t (addAll (pickM true (nthN mks i) σ.al) σ.g) σ.s kid = .norm t' h' s') (hv : v = t'.get un 0) (hs : σ' = ⟨putT o.dst σ.t v, h', s', σ.q, pickM false (nthN mks i) σ.al⟩) : Stp all mks P pr ih i o σ v b σ' 4
/-- The pass, as it went. -/
structure Trace (all : List Oper) (mks : List Nat) (P : Program) (pr : Prims) (ih : Rn) (j : Nat) (hi : List HI) (ob : List OB) (σ : Nat → St) (v : Nat → V) (b : Nat → B) (c : Nat → Nat) : Prop where
  step : ∀ i o, j ≤ i → all[i]? = some o → Stp all mks P pr ih i o (σ i) (v i) (b i) (σ (i + 1)) (c i)
  hi : ∀ x ∈ hi, ∀ i o, j ≤ i → all[i]? = some o → c i = 2 → (nthN mks i).testBit x.j = false → again o.op (σ i).t (v i) x.g P pr ih = true
  ob : ∀ x ∈ ob, ∀ i o, j ≤ i → all[i]? = some o → c i = 4 → (nthN mks i).testBit x.j = false → again x.o x.t x.v (σ (i + 1)).g P pr ih = true
  down : ∀ i i' o', j ≤ i → i < i' → all[i']? = some o' → c i = 4 → c i' = 2 → (nthN mks i').testBit i = false → again o'.op (σ i').t (v i') (σ i).g P pr ih = true
  up : ∀ i i' o o', j ≤ i → i < i' → all[i]? = some o → all[i']? = some o' → c i = 2 → c i' = 4 → (nthN mks i').testBit i = false → again o.op (σ i).t (v i) (σ (i' + 1)).g P pr ih = true
theorem histOk_ok {op : Op} {v : V} {m : Nat} : ∀ {l : List HI}, histOk op t v m P pr ih l = true → ∀ x ∈ l, m.testBit x.j = false → again op t v x.g P pr ih = true
  | [], h, x, hx, hb => by cases hx
  | y :: l, h, x, hx, hb => by
    change (bif bitB m y.j then histOk op t v m P pr ih l else (bif again op t v y.g P pr ih then histOk op t v m P pr ih l else false)) = true at h
    rw [bitB_eq] at h
    cases h1 : m.testBit y.j with
    | true =>
      rw [h1] at h
      rcases List.mem_cons.1 hx with rfl | hx
      · rw [h1] at hb; cases hb
      · exact histOk_ok h x hx hb
    | false =>
      rw [h1] at h
      simp only [cond_false] at h
      cases h2 : again op t v y.g P pr ih with
      | false => rw [h2] at h; cases h
      | true =>
        rw [h2] at h
        rcases List.mem_cons.1 hx with rfl | hx
        · exact h2
        · exact histOk_ok h x hx hb
theorem oblOk_ok {g : H} {m : Nat} : ∀ {l : List OB}, oblOk g m P pr ih l = true → ∀ x ∈ l, m.testBit x.j = false → again x.o x.t x.v g P pr ih = true
  | [], h, x, hx, hb => by cases hx
  | y :: l, h, x, hx, hb => by
    change (bif bitB m y.j then oblOk g m P pr ih l else (bif again y.o y.t y.v g P pr ih then oblOk g m P pr ih l else false)) = true at h
    rw [bitB_eq] at h
    cases h1 : m.testBit y.j with
    | true =>
      rw [h1] at h
      rcases List.mem_cons.1 hx with rfl | hx
      · rw [h1] at hb; cases hb
      · exact oblOk_ok h x hx hb
    | false =>
      rw [h1] at h
      simp only [cond_false] at h
      cases h2 : again y.o y.t y.v g P pr ih with
      | false => rw [h2] at h; cases h
      | true =>
        rw [h2] at h
        rcases List.mem_cons.1 hx with rfl | hx
        · exact h2
        · exact oblOk_ok h x hx hb
/-- A trace with one operation ahead. -/
theorem Trace.cons {all : List Oper} {mks : List Nat} {j : Nat} {hi hi' : List HI} {ob ob' : List OB} {σ : Nat → St} {v : Nat → V} {b : Nat → B} {c : Nat → Nat} {st : St} {v0 : V} {b0 : B} {c0 : Nat} (ho : all[j]? = some o)
    (tr : Trace all mks P pr ih (j + 1) hi' ob' σ v b c) (hst : Stp all mks P pr ih j o st v0 b0 (σ (j + 1)) c0)
    (hhi : ∀ x ∈ hi, x ∈ hi') (hob : ∀ x ∈ ob, x ∈ ob') (hh : c0 = 2 → ∀ x ∈ hi, (nthN mks j).testBit x.j = false → again o.op st.t v0 x.g P pr ih = true)
    (hoo : c0 = 4 → ∀ x ∈ ob, (nthN mks j).testBit x.j = false → again x.o x.t x.v (σ (j + 1)).g P pr ih = true)
    (hnew : c0 = 4 → ⟨j, st.g⟩ ∈ hi') (onew : c0 = 2 → ⟨j, o.op, st.t, v0⟩ ∈ ob') :
    Trace all mks P pr ih j hi ob (fun i => if i = j then st else σ i) (fun i => if i = j then v0 else v i) (fun i => if i = j then b0 else b i) (fun i => if i = j then c0 else c i) where
  step := fun i o' hji ho' => by
    by_cases hij : i = j
    · subst hij
      rw [ho] at ho'; injection ho' with ho'; subst ho'
      simpa using hst
    · simp only [hij, if_false, show i + 1 ≠ j by omega]
      exact tr.step i o' (by omega) ho'
  hi := fun x hx i o' hji ho' hc hb => by
    by_cases hij : i = j
    · subst hij
      rw [ho] at ho'; injection ho' with ho'; subst ho'
      simp only [if_true] at hc ⊢
      exact hh hc x hx hb
    · simp only [hij, if_false] at hc ⊢
      exact tr.hi x (hhi x hx) i o' (by omega) ho' hc hb
  ob := fun x hx i o' hji ho' hc hb => by
    simp only [show i + 1 ≠ j by omega, if_false]
    by_cases hij : i = j
    · subst hij
      simp only [if_true] at hc
      exact hoo hc x hx hb
    · simp only [hij, if_false] at hc
      exact tr.ob x (hob x hx) i o' (by omega) ho' hc hb
  down := fun i i' o' hji hii ho' hc hc' hb => by
    simp only [show i' ≠ j by omega, if_false] at hc' ⊢
    by_cases hij : i = j
    · subst hij
      simp only [if_true] at hc ⊢
      exact tr.hi _ (hnew hc) i' o' (by omega) ho' hc' hb
    · simp only [hij, if_false] at hc ⊢
      exact tr.down i i' o' (by omega) hii ho' hc hc' hb
  up := fun i i' o1 o' hji hii ho1 ho' hc hc' hb => by
    simp only [show i' ≠ j by omega, show i' + 1 ≠ j by omega, if_false] at hc' ⊢
    by_cases hij : i = j
    · subst hij
      rw [ho] at ho1; injection ho1 with ho1; subst ho1
      simp only [if_true] at hc ⊢
      exact tr.ob _ (onew hc) i' o' (by omega) ho' hc' hb
    · simp only [hij, if_false] at hc ⊢
      exact tr.up i i' o1 o' (by omega) hii ho1 ho' hc hc' hb
theorem dpass_ok {all : List Oper} {mks : List Nat} {lim : Nat} : ∀ {l pre : List Oper}, all = pre ++ l → ∀ {t : T V} {g : H} {s q : Nat} {al : List AL} {hi : List HI} {ob : List OB}, dpass all mks lim P pr ih l pre.length t g s q al hi ob = r → r.good →
    ∃ σ v b c, σ pre.length = ⟨t, g, s, q, al⟩ ∧ Trace all mks P pr ih pre.length hi ob σ v b c ∧ r = .norm (σ all.length).t (addAll (σ all.length).al (σ all.length).g) (σ all.length).s ∧ (σ all.length).q ≤ lim
  | [], pre, hall, t, g, s, q, al, hi, ob, hk, hr => by
    change (bif Nat.ble q lim then RO.norm t (addAll al g) s else .err 161) = r at hk
    obtain ⟨h1, hk⟩ := bif_ok hk (by simp [RO.good]) hr
    have hlen : all.length = pre.length := by rw [hall]; simp
    have hno : ∀ i, pre.length ≤ i → all[i]? = none := fun i hi => by rw [List.getElem?_eq_none_iff]; omega
    refine ⟨fun _ => ⟨t, g, s, q, al⟩, fun _ => un, fun _ => .gone, fun _ => 0, rfl, ⟨fun i o hi ho => ?_, fun x hx i o hi ho => ?_, fun x hx i o hi ho => ?_, fun i i' o' hi hii ho => ?_, fun i i' o o' hi hii ho => ?_⟩, hk.symm, Nat.le_of_ble_eq_true h1⟩
    · rw [hno i hi] at ho; cases ho
    · rw [hno i hi] at ho; cases ho
    · rw [hno i hi] at ho; cases ho
    · rw [hno i' (by omega)] at ho; cases ho
    · rw [hno i hi] at ho; cases ho
  | o :: l, pre, hall, t, g, s, q, al, hi, ob, hk, hr => by
    have ho : all[pre.length]? = some o := by rw [hall]; simp
    have hall' : all = (pre ++ [o]) ++ l := by rw [hall]; simp
    have hlp : (pre ++ [o]).length = pre.length + 1 := by simp
    have hne : all.length ≠ pre.length := by rw [hall]; simp
    cases hw : want all t o.guard with
    | false =>
      have hk' : dpass all mks lim P pr ih l (pre.length + 1) (putT o.dst t un) g s q al hi ob = r := by
        rw [← hk]
        show _ = (bif want all t o.guard then _ else _)
        rw [hw]; rfl
      rw [← hlp] at hk'
      obtain ⟨σ, v, b, c, h1, tr, h3, h4⟩ := dpass_ok hall' hk' hr
      rw [hlp] at h1 tr
      refine ⟨_, _, _, _, ?_, tr.cons (st := ⟨t, g, s, q, al⟩) (v0 := un) (b0 := .gone) (c0 := 0) ho (h1 ▸ .skip hw rfl rfl) (fun x hx => hx) (fun x hx => hx) (fun h => by cases h) (fun h => by cases h) (fun h => by cases h) (fun h => by cases h), ?_, ?_⟩
      · simp
      · simpa [hne] using h3
      · simpa [hne] using h4
    | true =>
      have e1 : dpass all mks lim P pr ih (o :: l) pre.length t g s q al hi ob = (bif want all t o.guard then _ else _) := rfl
      rw [e1, hw, cond_true] at hk
      rcases cls_cases o.op with hc | hc | hc | hc <;> rw [hc] at hk <;> simp only [dsel] at hk
      · split at hk
        · rename_i t' h' s' he
          have hk : dpass all mks lim P pr ih l (pre.length + 1) (putT o.dst t (t'.get un 0)) g s q al hi ob = r := hk
          rw [← hlp] at hk
          obtain ⟨σ, v, b, c, h1, tr, h3, h4⟩ := dpass_ok hall' hk hr
          rw [hlp] at h1 tr
          refine ⟨_, _, _, _, ?_, tr.cons (st := ⟨t, g, s, q, al⟩) (v0 := t'.get un 0) (b0 := .gone) (c0 := 1) ho (h1 ▸ .pure hw hc he rfl rfl) (fun x hx => hx) (fun x hx => hx) (fun h => by cases h) (fun h => by cases h) (fun h => by cases h) (fun h => by cases h), ?_, ?_⟩
          · simp
          · simpa [hne] using h3
          · simpa [hne] using h4
        · subst hk; cases hr
        · subst hk; cases hr
      · split at hk
        · rename_i t' h' s' he
          obtain ⟨hck, hk⟩ := bif_ok hk (by simp [RO.good]) hr
          have hk : dpass all mks lim P pr ih l (pre.length + 1) (putT o.dst t (t'.get un 0)) g s q al hi (⟨pre.length, o.op, t, t'.get un 0⟩ :: ob) = r := hk
          rw [← hlp] at hk
          obtain ⟨σ, v, b, c, h1, tr, h3, h4⟩ := dpass_ok hall' hk hr
          rw [hlp] at h1 tr
          refine ⟨_, _, _, _, ?_, tr.cons (st := ⟨t, g, s, q, al⟩) (v0 := t'.get un 0) (b0 := .gone) (c0 := 2) ho (h1 ▸ .read hw hc he rfl rfl) (fun x hx => hx) (fun x hx => List.mem_cons_of_mem _ hx) (fun _ => histOk_ok hck) (fun h => by cases h) (fun h => by cases h) (fun _ => List.mem_cons_self), ?_, ?_⟩
          · simp
          · simpa [hne] using h3
          · simpa [hne] using h4
        · subst hk; cases hr
        · subst hk; cases hr
      · split at hk
        · rename_i t' h' s' he
          have hk : dpass all mks lim P pr ih l (pre.length + 1) (putT o.dst t (t'.get un 0)) g s (q + 1) (⟨pre.length, q, h'.get .gone q⟩ :: al) hi ob = r := hk
          rw [← hlp] at hk
          obtain ⟨σ, v, b, c, h1, tr, h3, h4⟩ := dpass_ok hall' hk hr
          rw [hlp] at h1 tr
          refine ⟨_, _, _, _, ?_, tr.cons (st := ⟨t, g, s, q, al⟩) (v0 := t'.get un 0) (b0 := h'.get .gone q) (c0 := 3) ho (h1 ▸ .make hw hc he rfl rfl rfl) (fun x hx => hx) (fun x hx => hx) (fun h => by cases h) (fun h => by cases h) (fun h => by cases h) (fun h => by cases h), ?_, ?_⟩
          · simp
          · simpa [hne] using h3
          · simpa [hne] using h4
        · subst hk; cases hr
        · subst hk; cases hr
      · split at hk
        · rename_i t' h' s' he
          obtain ⟨hck, hk⟩ := bif_ok hk (by simp [RO.good]) hr
          have hk : dpass all mks lim P pr ih l (pre.length + 1) (putT o.dst t (t'.get un 0)) h' s' q (pickM false (nthN mks pre.length) al) (⟨pre.length, g⟩ :: hi) ob = r := hk
          rw [← hlp] at hk
          obtain ⟨σ, v, b, c, h1, tr, h3, h4⟩ := dpass_ok hall' hk hr
          rw [hlp] at h1 tr
          refine ⟨_, _, _, _, ?_, tr.cons (st := ⟨t, g, s, q, al⟩) (v0 := t'.get un 0) (b0 := .gone) (c0 := 4) ho (h1 ▸ .eff hw hc he rfl rfl) (fun x hx => List.mem_cons_of_mem _ hx) (fun x hx => hx) (fun h => by cases h) (fun _ => by rw [h1]; exact oblOk_ok hck) (fun _ => List.mem_cons_self) (fun h => by cases h), ?_, ?_⟩
          · simp
          · simpa [hne] using h3
          · simpa [hne] using h4
        · subst hk; cases hr
        · subst hk; cases hr
end Go.Ev
namespace Go.Ev
variable {D : List Deferred}
variable {P : Program} {pr : Prims} {ih : Rn} {e : Env} {t0 : T V} {h : H} {w : World} {a : Act} {o : Oper}
variable {all : List Oper} {σ : Nat → St} {v : Nat → V} {b : Nat → B} {c : Nat → Nat}
theorem Stp.tt {mks : List Nat} {i : Nat} {x : St} {y : V} {z : B} {x' : St} {k : Nat} (h : Stp all mks P pr ih i o x y z x' k) : x'.t = putT o.dst x.t y := by
  cases h <;> subst_vars <;> rfl
theorem Stp.gs {mks : List Nat} {i : Nat} {x : St} {y : V} {z : B} {x' : St} {k : Nat} (h : Stp all mks P pr ih i o x y z x' k) (hk : k ≠ 4) : x'.g = x.g ∧ x'.s = x.s := by
  cases h <;> first | exact absurd rfl hk | (subst_vars; exact ⟨rfl, rfl⟩)
theorem Stp.qq {mks : List Nat} {i : Nat} {x : St} {y : V} {z : B} {x' : St} {k : Nat} (h : Stp all mks P pr ih i o x y z x' k) : (k = 3 → x'.q = x.q + 1) ∧ (k ≠ 3 → x'.q = x.q) := by
  cases h <;> subst_vars <;> refine ⟨fun h => ?_, fun h => ?_⟩ <;> first | rfl | (cases h; done) | exact absurd rfl h
theorem Stp.cls {mks : List Nat} {i : Nat} {x : St} {y : V} {z : B} {x' : St} (h : Stp all mks P pr ih i o x y z x' 4) : cls o.op = 3 := by
  cases h; assumption
/-- The temporaries where the operations of a set have come up. -/
structure TX (all : List Oper) (v : Nat → V) (t0 : T V) (L : Nat → Bool) (t : T V) : Prop where
  has : ∀ d, t.has d = t0.has d
  on : ∀ j o d, all[j]? = some o → L j = true → o.dst = some d → t0.has d = true → t.get un d = v j
  off : ∀ d, (∀ j o, all[j]? = some o → L j = true → o.dst ≠ some d) → t.get un d = t0.get un d
theorem TX.agree (hd : Drawn all) {L L' : Nat → Bool} {t t' : T V} (x : TX all v t0 L t) (x' : TX all v t0 L' t') {u : Nat} (hu : ∀ j o, all[j]? = some o → o.dst = some u → L j = L' j) : t.get un u = t'.get un u := by
  by_cases hex : ∃ (j : Nat) (o : Oper), all[j]? = some o ∧ o.dst = some u
  · obtain ⟨j, o, ho, hdst⟩ := hex
    have hl := hu j o ho hdst
    cases hL : L j with
    | true =>
      rw [hL] at hl
      cases hh : t0.has u with
      | true => rw [x.on j o u ho hL hdst hh, x'.on j o u ho hl.symm hdst hh]
      | false => rw [T.get_off un t u (by rw [x.has]; exact hh), T.get_off un t' u (by rw [x'.has]; exact hh)]
    | false =>
      rw [hL] at hl
      have none : ∀ (M : Nat → Bool), M j = false → ∀ j' o', all[j']? = some o' → M j' = true → o'.dst ≠ some u := fun M hM j' o' ho' hm hd' => by
        by_cases hjj : j' = j
        · subst hjj; rw [hM] at hm; cases hm
        · exact (hd.pair j o ho j' o' ho' hjj).dst u hdst hd'
      rw [x.off u (none L hL), x'.off u (none L' hl.symm)]
  · have none : ∀ (M : Nat → Bool), ∀ j' o', all[j']? = some o' → M j' = true → o'.dst ≠ some u := fun M j' o' ho' _ hd' => hex ⟨j', o', ho', hd'⟩
    rw [x.off u (none L), x'.off u (none L')]
theorem TX.put (hd : Drawn all) {L : Nat → Bool} {t : T V} (x : TX all v t0 L t) {i : Nat} (ho : all[i]? = some o) (hL : L i = false) : TX all v t0 (fun j => L j || decide (j = i)) (putT o.dst t (v i)) := by
  cases hdst : o.dst with
  | none =>
    refine ⟨x.has, fun j o' d ho' hl hd' hh => ?_, fun d hn => x.off d (fun j o' ho' hl => hn j o' ho' (by simp [hl]))⟩
    by_cases hj : j = i
    · subst hj; rw [ho] at ho'; injection ho' with ho'; subst ho'; rw [hdst] at hd'; cases hd'
    · exact x.on j o' d ho' (by simpa [hj] using hl) hd' hh
  | some d0 =>
    refine ⟨fun d => by show (t.set d0 (v i)).has d = _; rw [T.has_set, x.has], fun j o' d ho' hl hd' hh => ?_, fun d hn => ?_⟩
    · show (t.set d0 (v i)).get un d = v j
      by_cases hj : j = i
      · subst hj
        rw [ho] at ho'; injection ho' with ho'; subst ho'
        rw [hdst] at hd'; injection hd' with hd'; subst hd'
        rw [T.get_set un t d0 d0 _ (by rw [x.has]; exact hh), if_pos rfl]
      · have hne : d ≠ d0 := fun hdd => by
          subst hdd
          exact (hd.pair i o ho j o' ho' hj).dst d hdst hd'
        have hLj : L j = true := by simpa [hj] using hl
        cases h0 : t.has d0 with
        | true => rw [T.get_set un t d0 d _ h0, if_neg hne]; exact x.on j o' d ho' hLj hd' hh
        | false => rw [T.set_off t d0 _ h0]; exact x.on j o' d ho' hLj hd' hh
    · show (t.set d0 (v i)).get un d = _
      have hne : d ≠ d0 := fun hdd => hn i o ho (by simp) (by rw [hdst, hdd])
      have := x.off d (fun j o' ho' hl => hn j o' ho' (by simp [hl]))
      cases h0 : t.has d0 with
      | true => rw [T.get_set un t d0 d _ h0, if_neg hne]; exact this
      | false => rw [T.set_off t d0 _ h0]; exact this
theorem mem_pick {y : Bool} {m : Nat} {x : AL} : ∀ {l : List AL}, x ∈ pickM y m l ↔ x ∈ l ∧ m.testBit x.j = y
  | [] => by simp [pickM]
  | z :: l => by
    have e1 : pickM y m (z :: l) = (bif (bif y then bitB m z.j else not (bitB m z.j)) then z :: pickM y m l else pickM y m l) := rfl
    rw [e1, bitB_eq]
    have ih := mem_pick (y := y) (m := m) (x := x) (l := l)
    cases y <;> cases hb : m.testBit z.j <;> simp only [cond_true, cond_false, Bool.not_true, Bool.not_false, List.mem_cons, ih] <;> constructor <;> intro hx
    all_goals first
      | (obtain ⟨h1 | h1, h2⟩ := hx
         · subst h1; rw [hb] at h2; cases h2
         · exact ⟨h1, h2⟩)
      | exact ⟨.inr hx.1, hx.2⟩
      | (rcases hx with rfl | hx
         · exact ⟨.inl rfl, hb⟩
         · exact ⟨.inr hx.1, hx.2⟩)
      | (obtain ⟨h1 | h1, h2⟩ := hx
         · exact .inl h1
         · exact .inr ⟨h1, h2⟩)
/-- What stays the same in a region. -/
structure Rgn (all : List Oper) (P : Program) (pr : Prims) (ih : Rn) (t0 : T V) (h0 : H) (s0 lim : Nat) (σ : Nat → St) (v : Nat → V) (b : Nat → B) (c : Nat → Nat) : Prop where
  hd : Drawn all
  tr : Trace all (masks all []) P pr ih 0 [] [] σ v b c
  z : σ 0 = ⟨t0, h0, lim, s0, []⟩
  q : (σ all.length).q ≤ lim
variable {h0 : H} {s0 lim : Nat}
section
variable (R : Rgn all P pr ih t0 h0 s0 lim σ v b c)
include R
theorem Rgn.at {i : Nat} (hi : i < all.length) : ∃ o, all[i]? = some o := ⟨all[i], by simp [hi]⟩
theorem Rgn.lt {i : Nat} (ho : all[i]? = some o) : i < all.length := (List.getElem?_eq_some_iff.1 ho).1
theorem Rgn.tx : ∀ i, i ≤ all.length → TX all v t0 (fun j => decide (j < i)) (σ i).t
  | 0, _ => by
    rw [R.z]
    exact ⟨fun d => rfl, fun j o d _ hl => by simp at hl, fun d _ => rfl⟩
  | i + 1, hi => by
    obtain ⟨o, ho⟩ := R.at (i := i) (by omega)
    have st := R.tr.step i o (Nat.zero_le _) ho
    have := (Rgn.tx i (by omega)).put R.hd ho (by simp)
    rw [st.tt]
    have e1 : (fun j => decide (j < i) || decide (j = i)) = (fun j => decide (j < i + 1)) := by
      funext j; rw [← Bool.decide_or]; congr 1; apply propext; omega
    rw [e1] at this
    exact this
theorem Rgn.qle : ∀ i i', i ≤ i' → i' ≤ all.length → (σ i).q ≤ (σ i').q := by
  intro i i' h1
  induction h1 with
  | refl => intro _; exact Nat.le_refl _
  | @step m h1 ih1 =>
    intro h2
    have h2 : m + 1 ≤ all.length := h2
    obtain ⟨o, ho⟩ := R.at (i := m) (by omega)
    have st := (R.tr.step m o (Nat.zero_le _) ho).qq
    have := ih1 (by omega)
    by_cases h3 : c m = 3
    · have := st.1 h3; show (σ i).q ≤ (σ (m + 1)).q; omega
    · have := st.2 h3; show (σ i).q ≤ (σ (m + 1)).q; omega
theorem Rgn.qlt {i i' : Nat} (hi : c i = 3) (h1 : i < i') (h2 : i' ≤ all.length) : (σ i).q < (σ i').q := by
  obtain ⟨o, ho⟩ := R.at (i := i) (by omega)
  have := (R.tr.step i o (Nat.zero_le _) ho).qq.1 hi
  have := R.qle (i + 1) i' h1 h2
  omega
theorem Rgn.qlim {i : Nat} (hi : c i = 3) (h1 : i < all.length) : s0 ≤ (σ i).q ∧ (σ i).q < lim := by
  have h2 := R.qle 0 i (Nat.zero_le _) (by omega)
  rw [R.z] at h2
  have h3 := R.qlt hi h1 (Nat.le_refl _)
  have := R.q
  exact ⟨h2, by omega⟩
theorem Rgn.same : ∀ i i', i ≤ i' → i' ≤ all.length → (∀ m, i ≤ m → m < i' → c m ≠ 4) → (σ i').g = (σ i).g ∧ (σ i').s = (σ i).s := by
  intro i i' h1
  induction h1 with
  | refl => intro _ _; exact ⟨rfl, rfl⟩
  | @step m h1 ih1 =>
    intro h2 h3
    have h2 : m + 1 ≤ all.length := h2
    obtain ⟨o, ho⟩ := R.at (i := m) (by omega)
    have st := (R.tr.step m o (Nat.zero_le _) ho).gs (h3 m h1 (Nat.lt_succ_self m))
    have := ih1 (by omega) (fun k hk hk2 => h3 k hk (by omega))
    exact ⟨st.1.trans this.1, st.2.trans this.2⟩
theorem Rgn.al : ∀ m, m ≤ all.length → ∀ x, x ∈ (σ m).al ↔ ∃ i, i < m ∧ c i = 3 ∧ x = ⟨i, (σ i).q, b i⟩ ∧ ∀ i', c i' = 4 → i < i' → i' < m → (nthN (masks all []) i').testBit i = false
  | 0, _, x => by rw [R.z]; simp
  | m + 1, hm, x => by
    obtain ⟨o, ho⟩ := R.at (i := m) (by omega)
    have st := R.tr.step m o (Nat.zero_le _) ho
    have ih := Rgn.al m (by omega) x
    have key : c m ≠ 3 → c m ≠ 4 → ((∃ i, i < m ∧ c i = 3 ∧ x = ⟨i, (σ i).q, b i⟩ ∧ ∀ i', c i' = 4 → i < i' → i' < m → (nthN (masks all []) i').testBit i = false) ↔ ∃ i, i < m + 1 ∧ c i = 3 ∧ x = ⟨i, (σ i).q, b i⟩ ∧ ∀ i', c i' = 4 → i < i' → i' < m + 1 → (nthN (masks all []) i').testBit i = false) := fun h3 h4 => by
      constructor
      · rintro ⟨i, h1, h2, h5, h6⟩
        refine ⟨i, by omega, h2, h5, fun i' h7 h8 h9 => h6 i' h7 h8 ?_⟩
        have : i' ≠ m := fun hh => h4 (hh ▸ h7)
        omega
      · rintro ⟨i, h1, h2, h5, h6⟩
        have : i ≠ m := fun hh => h3 (hh ▸ h2)
        exact ⟨i, by omega, h2, h5, fun i' h7 h8 h9 => h6 i' h7 h8 (by omega)⟩
    generalize hcm : c m = k at st
    cases st with
    | skip hw hv hs => rw [hs]; exact ih.trans (key (by omega) (by omega))
    | pure hw hc he hv hs => rw [hs]; exact ih.trans (key (by omega) (by omega))
    | read hw hc he hv hs => rw [hs]; exact ih.trans (key (by omega) (by omega))
    | make hw hc he hv hb hs =>
      rw [hs]
      simp only [List.mem_cons]
      constructor
      · rintro (hx | hx)
        · exact ⟨m, by omega, hcm, hx, fun i' h7 h8 h9 => by omega⟩
        · obtain ⟨i, h1, h2, h5, h6⟩ := ih.1 hx
          refine ⟨i, by omega, h2, h5, fun i' h7 h8 h9 => h6 i' h7 h8 ?_⟩
          have : i' ≠ m := fun hh => by rw [hh, hcm] at h7; cases h7
          omega
      · rintro ⟨i, h1, h2, h5, h6⟩
        by_cases him : i = m
        · subst him; exact .inl h5
        · exact .inr (ih.2 ⟨i, by omega, h2, h5, fun i' h7 h8 h9 => h6 i' h7 h8 (by omega)⟩)
    | eff hw hc he hv hs =>
      rw [hs]
      rw [mem_pick, ih]
      constructor
      · rintro ⟨⟨i, h1, h2, h5, h6⟩, h7⟩
        refine ⟨i, by omega, h2, h5, fun i' h8 h9 h10 => ?_⟩
        by_cases him : i' = m
        · subst him; rw [h5] at h7; exact h7
        · exact h6 i' h8 h9 (by omega)
      · rintro ⟨i, h1, h2, h5, h6⟩
        have him : i ≠ m := fun hh => by rw [hh, hcm] at h2; cases h2
        refine ⟨⟨i, by omega, h2, h5, fun i' h8 h9 h10 => h6 i' h8 h9 (by omega)⟩, ?_⟩
        rw [h5]
        exact h6 m hcm (by omega) (by omega)
end
end Go.Ev
