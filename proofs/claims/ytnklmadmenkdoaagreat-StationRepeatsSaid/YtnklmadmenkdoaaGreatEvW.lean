/- An evaluator of the model's code: a pass through a region that draws its order. -/
import Derived.Test.YtnklmadmenkdoaaGreatEvV
set_option linter.unusedVariables false
set_option linter.unusedSimpArgs false
namespace Go.Ev
variable {D : List Deferred}
variable {P : Program} {pr : Prims} {ih : Rn} {e : Env} {t t' : T V} {h : H} {s : Nat} {w : World} {a : Act} {r : RO} {k : K} {o : Oper}
structure St where
  t : T V
  g : H
  s : Nat
  q : Nat
  al : List AL
theorem cls_cases (op : Op) : cls op = 0 ∨ cls op = 1 ∨ cls op = 2 ∨ cls op = 3 := by
  cases op <;> first | exact .inl rfl | exact .inr (.inl rfl) | exact .inr (.inr (.inl rfl)) | exact .inr (.inr (.inr rfl)) | skip
  case convert a b x => cases hq : Nat.beq a b <;> simp [cls, hq]
  case call c => obtain ⟨cal, args, at_⟩ := c; cases cal with
    | value _ => exact .inr (.inr (.inr rfl))
    | invoke _ _ => exact .inr (.inr (.inr rfl))
    | builtin b => cases b <;> first | exact .inr (.inl rfl) | exact .inr (.inr (.inr rfl))
/-- One operation of the pass: 0 not taken, 1 a value that leans on no memory, 2 a value that is read, 3 a block made, 4 whatever else. -/
inductive Stp (all : List Oper) (mks : List Nat) (P : Program) (pr : Prims) (ih : Rn) (i : Nat) (o : Oper) (σ : St) (v : V) (b : B) (σ' : St) : Nat → Prop where
  | skip (hw : want all σ.t o.guard = false) (hv : v = un) (hs : σ' = { σ with t := putT o.dst σ.t un }) : Stp all mks P pr ih i o σ v b σ' 0
  | pure {t' h' s'} (hw : want all σ.t o.guard = true) (hc : cls o.op = 0) (he : opF o.op P pr ih σ.t E0 0 kid0 = .norm t' h' s') (hv : v = t'.get un 0) (hs : σ' = { σ with t := putT o.dst σ.t v }) : Stp all mks P pr ih i o σ v b σ' 1
  | read {t' h' s'} (hw : want all σ.t o.guard = true) (hc : cls o.op = 1) (he : opF o.op P pr ih σ.t σ.g 0 kid0 = .norm t' h' s') (hv : v = t'.get un 0) (hs : σ' = { σ with t := putT o.dst σ.t v }) : Stp all mks P pr ih i o σ v b σ' 2
  | make {t' h' s'} (hw : want all σ.t o.guard = true) (hc : cls o.op = 2) (he : opF o.op P pr ih σ.t E0 σ.q kid = .norm t' h' s') (hv : v = t'.get un 0) (hb : b = h'.get .gone σ.q) (hs : σ' = { σ with t := putT o.dst σ.t v, q := σ.q + 1, al := ⟨i, σ.q, b⟩ :: σ.al }) : Stp all mks P pr ih i o σ v b σ' 3
  | eff {t' h' s'} (hw : want all σ.t o.guard = true) (hc : cls o.op = 3) (he : opF o.op P pr ih σ.t (addAll (pickM true (nthN mks i) σ.al) σ.g) σ.s kid = .norm t' h' s') (hv : v = t'.get un 0) (hs : σ' = ⟨putT o.dst σ.t v, h', s', σ.q, pickM false (nthN mks i) σ.al⟩) : Stp all mks P pr ih i o σ v b σ' 4
/-- The pass, as it went. -/
structure Trace (all : List Oper) (mks : List Nat) (P : Program) (pr : Prims) (ih : Rn) (j : Nat) (hi : List HI) (ob : List OB) (σ : Nat → St) (v : Nat → V) (b : Nat → B) (c : Nat → Nat) : Prop where
  step : ∀ i o, j ≤ i → all[i]? = some o → Stp all mks P pr ih i o (σ i) (v i) (b i) (σ (i + 1)) (c i)
  hi : ∀ x ∈ hi, ∀ i o, j ≤ i → all[i]? = some o → c i = 2 → (nthN mks i).testBit x.j = false → again o.op (σ i).t (v i) x.g P pr ih = true
  ob : ∀ x ∈ ob, ∀ i o, j ≤ i → all[i]? = some o → c i = 4 → (nthN mks i).testBit x.j = false → again x.o x.t x.v (σ (i + 1)).g P pr ih = true
  down : ∀ i i' o', j ≤ i → i < i' → all[i']? = some o' → c i = 4 → c i' = 2 → (nthN mks i').testBit i = false → again o'.op (σ i').t (v i') (σ i).g P pr ih = true
  up : ∀ i i' o o', j ≤ i → i < i' → all[i]? = some o → all[i']? = some o' → c i = 2 → c i' = 4 → (nthN mks i').testBit i = false → again o.op (σ i).t (v i) (σ (i' + 1)).g P pr ih = true
theorem histOk_ok {op : Op} {v : V} {m : Nat} : ∀ {l : List HI}, histOk op t v m P pr ih l = true → ∀ x ∈ l, m.testBit x.j = false → again op t v x.g P pr ih = true
  | [], h, x, hx, hb => by cases hx
  | y :: l, h, x, hx, hb => by
    change (bif bitB m y.j then histOk op t v m P pr ih l else (bif again op t v y.g P pr ih then histOk op t v m P pr ih l else false)) = true at h
    rw [bitB_eq] at h
    cases h1 : m.testBit y.j with
    | true =>
      rw [h1] at h
      rcases List.mem_cons.1 hx with rfl | hx
      · rw [h1] at hb; cases hb
      · exact histOk_ok h x hx hb
    | false =>
      rw [h1] at h
      simp only [cond_false] at h
      cases h2 : again op t v y.g P pr ih with
      | false => rw [h2] at h; cases h
      | true =>
        rw [h2] at h
        rcases List.mem_cons.1 hx with rfl | hx
        · exact h2
        · exact histOk_ok h x hx hb
theorem oblOk_ok {g : H} {m : Nat} : ∀ {l : List OB}, oblOk g m P pr ih l = true → ∀ x ∈ l, m.testBit x.j = false → again x.o x.t x.v g P pr ih = true
  | [], h, x, hx, hb => by cases hx
  | y :: l, h, x, hx, hb => by
    change (bif bitB m y.j then oblOk g m P pr ih l else (bif again y.o y.t y.v g P pr ih then oblOk g m P pr ih l else false)) = true at h
    rw [bitB_eq] at h
    cases h1 : m.testBit y.j with
    | true =>
      rw [h1] at h
      rcases List.mem_cons.1 hx with rfl | hx
      · rw [h1] at hb; cases hb
      · exact oblOk_ok h x hx hb
    | false =>
      rw [h1] at h
      simp only [cond_false] at h
      cases h2 : again y.o y.t y.v g P pr ih with
      | false => rw [h2] at h; cases h
      | true =>
        rw [h2] at h
        rcases List.mem_cons.1 hx with rfl | hx
        · exact h2
        · exact oblOk_ok h x hx hb
/-- A trace with one operation ahead. -/
theorem Trace.cons {all : List Oper} {mks : List Nat} {j : Nat} {hi hi' : List HI} {ob ob' : List OB} {σ : Nat → St} {v : Nat → V} {b : Nat → B} {c : Nat → Nat} {st : St} {v0 : V} {b0 : B} {c0 : Nat} (ho : all[j]? = some o)
    (tr : Trace all mks P pr ih (j + 1) hi' ob' σ v b c) (hst : Stp all mks P pr ih j o st v0 b0 (σ (j + 1)) c0)
    (hhi : ∀ x ∈ hi, x ∈ hi') (hob : ∀ x ∈ ob, x ∈ ob') (hh : c0 = 2 → ∀ x ∈ hi, (nthN mks j).testBit x.j = false → again o.op st.t v0 x.g P pr ih = true)
    (hoo : c0 = 4 → ∀ x ∈ ob, (nthN mks j).testBit x.j = false → again x.o x.t x.v (σ (j + 1)).g P pr ih = true)
    (hnew : c0 = 4 → ⟨j, st.g⟩ ∈ hi') (onew : c0 = 2 → ⟨j, o.op, st.t, v0⟩ ∈ ob') :
    Trace all mks P pr ih j hi ob (fun i => if i = j then st else σ i) (fun i => if i = j then v0 else v i) (fun i => if i = j then b0 else b i) (fun i => if i = j then c0 else c i) where
  step := fun i o' hji ho' => by
    by_cases hij : i = j
    · subst hij
      rw [ho] at ho'; injection ho' with ho'; subst ho'
      simpa using hst
    · simp only [hij, if_false, show i + 1 ≠ j by omega]
      exact tr.step i o' (by omega) ho'
  hi := fun x hx i o' hji ho' hc hb => by
    by_cases hij : i = j
    · subst hij
      rw [ho] at ho'; injection ho' with ho'; subst ho'
      simp only [if_true] at hc ⊢
      exact hh hc x hx hb
    · simp only [hij, if_false] at hc ⊢
      exact tr.hi x (hhi x hx) i o' (by omega) ho' hc hb
  ob := fun x hx i o' hji ho' hc hb => by
    simp only [show i + 1 ≠ j by omega, if_false]
    by_cases hij : i = j
    · subst hij
      simp only [if_true] at hc
      exact hoo hc x hx hb
    · simp only [hij, if_false] at hc
      exact tr.ob x (hob x hx) i o' (by omega) ho' hc hb
  down := fun i i' o' hji hii ho' hc hc' hb => by
    simp only [show i' ≠ j by omega, if_false] at hc' ⊢
    by_cases hij : i = j
    · subst hij
      simp only [if_true] at hc ⊢
      exact tr.hi _ (hnew hc) i' o' (by omega) ho' hc' hb
    · simp only [hij, if_false] at hc ⊢
      exact tr.down i i' o' (by omega) hii ho' hc hc' hb
  up := fun i i' o1 o' hji hii ho1 ho' hc hc' hb => by
    simp only [show i' ≠ j by omega, show i' + 1 ≠ j by omega, if_false] at hc' ⊢
    by_cases hij : i = j
    · subst hij
      rw [ho] at ho1; injection ho1 with ho1; subst ho1
      simp only [if_true] at hc ⊢
      exact tr.ob _ (onew hc) i' o' (by omega) ho' hc' hb
    · simp only [hij, if_false] at hc ⊢
      exact tr.up i i' o1 o' (by omega) hii ho1 ho' hc hc' hb
theorem dpass_ok {all : List Oper} {mks : List Nat} {lim : Nat} : ∀ {l pre : List Oper}, all = pre ++ l → ∀ {t : T V} {g : H} {s q : Nat} {al : List AL} {hi : List HI} {ob : List OB}, dpass all mks lim P pr ih l pre.length t g s q al hi ob = r → r.good →
    ∃ σ v b c, σ pre.length = ⟨t, g, s, q, al⟩ ∧ Trace all mks P pr ih pre.length hi ob σ v b c ∧ r = .norm (σ all.length).t (addAll (σ all.length).al (σ all.length).g) (σ all.length).s ∧ (σ all.length).q ≤ lim
  | [], pre, hall, t, g, s, q, al, hi, ob, hk, hr => by
    change (bif Nat.ble q lim then RO.norm t (addAll al g) s else .err 161) = r at hk
    obtain ⟨h1, hk⟩ := bif_ok hk (by simp [RO.good]) hr
    have hlen : all.length = pre.length := by rw [hall]; simp
    have hno : ∀ i, pre.length ≤ i → all[i]? = none := fun i hi => by rw [List.getElem?_eq_none_iff]; omega
    refine ⟨fun _ => ⟨t, g, s, q, al⟩, fun _ => un, fun _ => .gone, fun _ => 0, rfl, ⟨fun i o hi ho => ?_, fun x hx i o hi ho => ?_, fun x hx i o hi ho => ?_, fun i i' o' hi hii ho => ?_, fun i i' o o' hi hii ho => ?_⟩, hk.symm, Nat.le_of_ble_eq_true h1⟩
    · rw [hno i hi] at ho; cases ho
    · rw [hno i hi] at ho; cases ho
    · rw [hno i hi] at ho; cases ho
    · rw [hno i' (by omega)] at ho; cases ho
    · rw [hno i hi] at ho; cases ho
  | o :: l, pre, hall, t, g, s, q, al, hi, ob, hk, hr => by
    have ho : all[pre.length]? = some o := by rw [hall]; simp
    have hall' : all = (pre ++ [o]) ++ l := by rw [hall]; simp
    have hlp : (pre ++ [o]).length = pre.length + 1 := by simp
    have hne : all.length ≠ pre.length := by rw [hall]; simp
    cases hw : want all t o.guard with
    | false =>
      have hk' : dpass all mks lim P pr ih l (pre.length + 1) (putT o.dst t un) g s q al hi ob = r := by
        rw [← hk]
        show _ = (bif want all t o.guard then _ else _)
        rw [hw]; rfl
      rw [← hlp] at hk'
      obtain ⟨σ, v, b, c, h1, tr, h3, h4⟩ := dpass_ok hall' hk' hr
      rw [hlp] at h1 tr
      refine ⟨_, _, _, _, ?_, tr.cons (st := ⟨t, g, s, q, al⟩) (v0 := un) (b0 := .gone) (c0 := 0) ho (h1 ▸ .skip hw rfl rfl) (fun x hx => hx) (fun x hx => hx) (fun h => by cases h) (fun h => by cases h) (fun h => by cases h) (fun h => by cases h), ?_, ?_⟩
      · simp
      · simpa [hne] using h3
      · simpa [hne] using h4
    | true =>
      have e1 : dpass all mks lim P pr ih (o :: l) pre.length t g s q al hi ob = (bif want all t o.guard then _ else _) := rfl
      rw [e1, hw, cond_true] at hk
      rcases cls_cases o.op with hc | hc | hc | hc <;> rw [hc] at hk <;> simp only [dsel] at hk
      · split at hk
        · rename_i t' h' s' he
          have hk : dpass all mks lim P pr ih l (pre.length + 1) (putT o.dst t (t'.get un 0)) g s q al hi ob = r := hk
          rw [← hlp] at hk
          obtain ⟨σ, v, b, c, h1, tr, h3, h4⟩ := dpass_ok hall' hk hr
          rw [hlp] at h1 tr
          refine ⟨_, _, _, _, ?_, tr.cons (st := ⟨t, g, s, q, al⟩) (v0 := t'.get un 0) (b0 := .gone) (c0 := 1) ho (h1 ▸ .pure hw hc he rfl rfl) (fun x hx => hx) (fun x hx => hx) (fun h => by cases h) (fun h => by cases h) (fun h => by cases h) (fun h => by cases h), ?_, ?_⟩
          · simp
          · simpa [hne] using h3
          · simpa [hne] using h4
        · subst hk; cases hr
        · subst hk; cases hr
      · split at hk
        · rename_i t' h' s' he
          obtain ⟨hck, hk⟩ := bif_ok hk (by simp [RO.good]) hr
          have hk : dpass all mks lim P pr ih l (pre.length + 1) (putT o.dst t (t'.get un 0)) g s q al hi (⟨pre.length, o.op, t, t'.get un 0⟩ :: ob) = r := hk
          rw [← hlp] at hk
          obtain ⟨σ, v, b, c, h1, tr, h3, h4⟩ := dpass_ok hall' hk hr
          rw [hlp] at h1 tr
          refine ⟨_, _, _, _, ?_, tr.cons (st := ⟨t, g, s, q, al⟩) (v0 := t'.get un 0) (b0 := .gone) (c0 := 2) ho (h1 ▸ .read hw hc he rfl rfl) (fun x hx => hx) (fun x hx => List.mem_cons_of_mem _ hx) (fun _ => histOk_ok hck) (fun h => by cases h) (fun h => by cases h) (fun _ => List.mem_cons_self), ?_, ?_⟩
          · simp
          · simpa [hne] using h3
          · simpa [hne] using h4
        · subst hk; cases hr
        · subst hk; cases hr
      · split at hk
        · rename_i t' h' s' he
          have hk : dpass all mks lim P pr ih l (pre.length + 1) (putT o.dst t (t'.get un 0)) g s (q + 1) (⟨pre.length, q, h'.get .gone q⟩ :: al) hi ob = r := hk
          rw [← hlp] at hk
          obtain ⟨σ, v, b, c, h1, tr, h3, h4⟩ := dpass_ok hall' hk hr
          rw [hlp] at h1 tr
          refine ⟨_, _, _, _, ?_, tr.cons (st := ⟨t, g, s, q, al⟩) (v0 := t'.get un 0) (b0 := h'.get .gone q) (c0 := 3) ho (h1 ▸ .make hw hc he rfl rfl rfl) (fun x hx => hx) (fun x hx => hx) (fun h => by cases h) (fun h => by cases h) (fun h => by cases h) (fun h => by cases h), ?_, ?_⟩
          · simp
          · simpa [hne] using h3
          · simpa [hne] using h4
        · subst hk; cases hr
        · subst hk; cases hr
      · split at hk
        · rename_i t' h' s' he
          obtain ⟨hck, hk⟩ := bif_ok hk (by simp [RO.good]) hr
          have hk : dpass all mks lim P pr ih l (pre.length + 1) (putT o.dst t (t'.get un 0)) h' s' q (pickM false (nthN mks pre.length) al) (⟨pre.length, g⟩ :: hi) ob = r := hk
          rw [← hlp] at hk
          obtain ⟨σ, v, b, c, h1, tr, h3, h4⟩ := dpass_ok hall' hk hr
          rw [hlp] at h1 tr
          refine ⟨_, _, _, _, ?_, tr.cons (st := ⟨t, g, s, q, al⟩) (v0 := t'.get un 0) (b0 := .gone) (c0 := 4) ho (h1 ▸ .eff hw hc he rfl rfl) (fun x hx => List.mem_cons_of_mem _ hx) (fun x hx => hx) (fun h => by cases h) (fun _ => by rw [h1]; exact oblOk_ok hck) (fun _ => List.mem_cons_self) (fun h => by cases h), ?_, ?_⟩
          · simp
          · simpa [hne] using h3
          · simpa [hne] using h4
        · subst hk; cases hr
        · subst hk; cases hr
end Go.Ev
