/- An evaluator of the model's code: what a pass knows of a region that draws its order. -/
import Derived.Test.YtnklmadmenkdoaaGreatEvW
set_option linter.unusedVariables false
set_option linter.unusedSimpArgs false
set_option linter.unusedSectionVars false
namespace Go.Ev
variable {D : List Deferred}
variable {P : Program} {pr : Prims} {ih : Rn} {e : Env} {t0 : T V} {h : H} {w : World} {a : Act} {o : Oper}
variable {all : List Oper} {σ : Nat → St} {v : Nat → V} {b : Nat → B} {c : Nat → Nat}
theorem Stp.tt {mks : List Nat} {i : Nat} {x : St} {y : V} {z : B} {x' : St} {k : Nat} (h : Stp all mks P pr ih i o x y z x' k) : x'.t = putT o.dst x.t y := by
  cases h <;> subst_vars <;> rfl
theorem Stp.gs {mks : List Nat} {i : Nat} {x : St} {y : V} {z : B} {x' : St} {k : Nat} (h : Stp all mks P pr ih i o x y z x' k) (hk : k ≠ 4) : x'.g = x.g ∧ x'.s = x.s := by
  cases h <;> first | exact absurd rfl hk | (subst_vars; exact ⟨rfl, rfl⟩)
theorem Stp.qq {mks : List Nat} {i : Nat} {x : St} {y : V} {z : B} {x' : St} {k : Nat} (h : Stp all mks P pr ih i o x y z x' k) : (k = 3 → x'.q = x.q + 1) ∧ (k ≠ 3 → x'.q = x.q) := by
  cases h <;> subst_vars <;> refine ⟨fun h => ?_, fun h => ?_⟩ <;> first | rfl | (cases h; done) | exact absurd rfl h
theorem Stp.cls {mks : List Nat} {i : Nat} {x : St} {y : V} {z : B} {x' : St} (h : Stp all mks P pr ih i o x y z x' 4) : cls o.op = 3 := by
  cases h; assumption
/-- The temporaries where the operations of a set have come up. -/
structure TX (all : List Oper) (v : Nat → V) (t0 : T V) (L : Nat → Bool) (t : T V) : Prop where
  has : ∀ d, t.has d = t0.has d
  on : ∀ j o d, all[j]? = some o → L j = true → o.dst = some d → t0.has d = true → t.get un d = v j
  off : ∀ d, (∀ j o, all[j]? = some o → L j = true → o.dst ≠ some d) → t.get un d = t0.get un d
theorem TX.agree (hd : Drawn all) {L L' : Nat → Bool} {t t' : T V} (x : TX all v t0 L t) (x' : TX all v t0 L' t') {u : Nat} (hu : ∀ j o, all[j]? = some o → o.dst = some u → L j = L' j) : t.get un u = t'.get un u := by
  by_cases hex : ∃ (j : Nat) (o : Oper), all[j]? = some o ∧ o.dst = some u
  · obtain ⟨j, o, ho, hdst⟩ := hex
    have hl := hu j o ho hdst
    cases hL : L j with
    | true =>
      rw [hL] at hl
      cases hh : t0.has u with
      | true => rw [x.on j o u ho hL hdst hh, x'.on j o u ho hl.symm hdst hh]
      | false => rw [T.get_off un t u (by rw [x.has]; exact hh), T.get_off un t' u (by rw [x'.has]; exact hh)]
    | false =>
      rw [hL] at hl
      have none : ∀ (M : Nat → Bool), M j = false → ∀ j' o', all[j']? = some o' → M j' = true → o'.dst ≠ some u := fun M hM j' o' ho' hm hd' => by
        by_cases hjj : j' = j
        · subst hjj; rw [hM] at hm; cases hm
        · exact (hd.pair j o ho j' o' ho' hjj).dst u hdst hd'
      rw [x.off u (none L hL), x'.off u (none L' hl.symm)]
  · have none : ∀ (M : Nat → Bool), ∀ j' o', all[j']? = some o' → M j' = true → o'.dst ≠ some u := fun M j' o' ho' _ hd' => hex ⟨j', o', ho', hd'⟩
    rw [x.off u (none L), x'.off u (none L')]
theorem TX.put (hd : Drawn all) {L : Nat → Bool} {t : T V} (x : TX all v t0 L t) {i : Nat} (ho : all[i]? = some o) (hL : L i = false) : TX all v t0 (fun j => L j || decide (j = i)) (putT o.dst t (v i)) := by
  cases hdst : o.dst with
  | none =>
    refine ⟨x.has, fun j o' d ho' hl hd' hh => ?_, fun d hn => x.off d (fun j o' ho' hl => hn j o' ho' (by simp [hl]))⟩
    by_cases hj : j = i
    · subst hj; rw [ho] at ho'; injection ho' with ho'; subst ho'; rw [hdst] at hd'; cases hd'
    · exact x.on j o' d ho' (by simpa [hj] using hl) hd' hh
  | some d0 =>
    refine ⟨fun d => by show (t.set d0 (v i)).has d = _; rw [T.has_set, x.has], fun j o' d ho' hl hd' hh => ?_, fun d hn => ?_⟩
    · show (t.set d0 (v i)).get un d = v j
      by_cases hj : j = i
      · subst hj
        rw [ho] at ho'; injection ho' with ho'; subst ho'
        rw [hdst] at hd'; injection hd' with hd'; subst hd'
        rw [T.get_set un t d0 d0 _ (by rw [x.has]; exact hh), if_pos rfl]
      · have hne : d ≠ d0 := fun hdd => by
          subst hdd
          exact (hd.pair i o ho j o' ho' hj).dst d hdst hd'
        have hLj : L j = true := by simpa [hj] using hl
        cases h0 : t.has d0 with
        | true => rw [T.get_set un t d0 d _ h0, if_neg hne]; exact x.on j o' d ho' hLj hd' hh
        | false => rw [T.set_off t d0 _ h0]; exact x.on j o' d ho' hLj hd' hh
    · show (t.set d0 (v i)).get un d = _
      have hne : d ≠ d0 := fun hdd => hn i o ho (by simp) (by rw [hdst, hdd])
      have := x.off d (fun j o' ho' hl => hn j o' ho' (by simp [hl]))
      cases h0 : t.has d0 with
      | true => rw [T.get_set un t d0 d _ h0, if_neg hne]; exact this
      | false => rw [T.set_off t d0 _ h0]; exact this
theorem mem_pick {y : Bool} {m : Nat} {x : AL} : ∀ {l : List AL}, x ∈ pickM y m l ↔ x ∈ l ∧ m.testBit x.j = y
  | [] => by simp [pickM]
  | z :: l => by
    have e1 : pickM y m (z :: l) = (bif (bif y then bitB m z.j else not (bitB m z.j)) then z :: pickM y m l else pickM y m l) := rfl
    rw [e1, bitB_eq]
    have ih := mem_pick (y := y) (m := m) (x := x) (l := l)
    cases y <;> cases hb : m.testBit z.j <;> simp only [cond_true, cond_false, Bool.not_true, Bool.not_false, List.mem_cons, ih] <;> constructor <;> intro hx
    all_goals first
      | (obtain ⟨h1 | h1, h2⟩ := hx
         · subst h1; rw [hb] at h2; cases h2
         · exact ⟨h1, h2⟩)
      | exact ⟨.inr hx.1, hx.2⟩
      | (rcases hx with rfl | hx
         · exact ⟨.inl rfl, hb⟩
         · exact ⟨.inr hx.1, hx.2⟩)
      | (obtain ⟨h1 | h1, h2⟩ := hx
         · exact .inl h1
         · exact .inr ⟨h1, h2⟩)
/-- What stays the same in a region. -/
structure Rgn (all : List Oper) (P : Program) (pr : Prims) (ih : Rn) (t0 : T V) (h0 : H) (s0 lim : Nat) (σ : Nat → St) (v : Nat → V) (b : Nat → B) (c : Nat → Nat) : Prop where
  hd : Drawn all
  tr : Trace all (masks all []) P pr ih 0 [] [] σ v b c
  z : σ 0 = ⟨t0, h0, lim, s0, []⟩
  q : (σ all.length).q ≤ lim
variable {h0 : H} {s0 lim : Nat}
section
variable (R : Rgn all P pr ih t0 h0 s0 lim σ v b c)
include R
theorem Rgn.at {i : Nat} (hi : i < all.length) : ∃ o, all[i]? = some o := ⟨all[i], by simp [hi]⟩
theorem Rgn.lt {i : Nat} (ho : all[i]? = some o) : i < all.length := (List.getElem?_eq_some_iff.1 ho).1
theorem Rgn.tx : ∀ i, i ≤ all.length → TX all v t0 (fun j => decide (j < i)) (σ i).t
  | 0, _ => by
    rw [R.z]
    exact ⟨fun d => rfl, fun j o d _ hl => by simp at hl, fun d _ => rfl⟩
  | i + 1, hi => by
    obtain ⟨o, ho⟩ := R.at (i := i) (by omega)
    have st := R.tr.step i o (Nat.zero_le _) ho
    have := (Rgn.tx i (by omega)).put R.hd ho (by simp)
    rw [st.tt]
    have e1 : (fun j => decide (j < i) || decide (j = i)) = (fun j => decide (j < i + 1)) := by
      funext j; rw [← Bool.decide_or]; congr 1; apply propext; omega
    rw [e1] at this
    exact this
theorem Rgn.qle : ∀ i i', i ≤ i' → i' ≤ all.length → (σ i).q ≤ (σ i').q := by
  intro i i' h1
  induction h1 with
  | refl => intro _; exact Nat.le_refl _
  | @step m h1 ih1 =>
    intro h2
    have h2 : m + 1 ≤ all.length := h2
    obtain ⟨o, ho⟩ := R.at (i := m) (by omega)
    have st := (R.tr.step m o (Nat.zero_le _) ho).qq
    have := ih1 (by omega)
    by_cases h3 : c m = 3
    · have := st.1 h3; show (σ i).q ≤ (σ (m + 1)).q; omega
    · have := st.2 h3; show (σ i).q ≤ (σ (m + 1)).q; omega
theorem Rgn.qlt {i i' : Nat} (hi : c i = 3) (h1 : i < i') (h2 : i' ≤ all.length) : (σ i).q < (σ i').q := by
  obtain ⟨o, ho⟩ := R.at (i := i) (by omega)
  have := (R.tr.step i o (Nat.zero_le _) ho).qq.1 hi
  have := R.qle (i + 1) i' h1 h2
  omega
theorem Rgn.qlim {i : Nat} (hi : c i = 3) (h1 : i < all.length) : s0 ≤ (σ i).q ∧ (σ i).q < lim := by
  have h2 := R.qle 0 i (Nat.zero_le _) (by omega)
  rw [R.z] at h2
  have h3 := R.qlt hi h1 (Nat.le_refl _)
  have := R.q
  exact ⟨h2, by omega⟩
theorem Rgn.same : ∀ i i', i ≤ i' → i' ≤ all.length → (∀ m, i ≤ m → m < i' → c m ≠ 4) → (σ i').g = (σ i).g ∧ (σ i').s = (σ i).s := by
  intro i i' h1
  induction h1 with
  | refl => intro _ _; exact ⟨rfl, rfl⟩
  | @step m h1 ih1 =>
    intro h2 h3
    have h2 : m + 1 ≤ all.length := h2
    obtain ⟨o, ho⟩ := R.at (i := m) (by omega)
    have st := (R.tr.step m o (Nat.zero_le _) ho).gs (h3 m h1 (Nat.lt_succ_self m))
    have := ih1 (by omega) (fun k hk hk2 => h3 k hk (by omega))
    exact ⟨st.1.trans this.1, st.2.trans this.2⟩
theorem Rgn.al : ∀ m, m ≤ all.length → ∀ x, x ∈ (σ m).al ↔ ∃ i, i < m ∧ c i = 3 ∧ x = ⟨i, (σ i).q, b i⟩ ∧ ∀ i', c i' = 4 → i < i' → i' < m → (nthN (masks all []) i').testBit i = false
  | 0, _, x => by rw [R.z]; simp
  | m + 1, hm, x => by
    obtain ⟨o, ho⟩ := R.at (i := m) (by omega)
    have st := R.tr.step m o (Nat.zero_le _) ho
    have ih := Rgn.al m (by omega) x
    have key : c m ≠ 3 → c m ≠ 4 → ((∃ i, i < m ∧ c i = 3 ∧ x = ⟨i, (σ i).q, b i⟩ ∧ ∀ i', c i' = 4 → i < i' → i' < m → (nthN (masks all []) i').testBit i = false) ↔ ∃ i, i < m + 1 ∧ c i = 3 ∧ x = ⟨i, (σ i).q, b i⟩ ∧ ∀ i', c i' = 4 → i < i' → i' < m + 1 → (nthN (masks all []) i').testBit i = false) := fun h3 h4 => by
      constructor
      · rintro ⟨i, h1, h2, h5, h6⟩
        refine ⟨i, by omega, h2, h5, fun i' h7 h8 h9 => h6 i' h7 h8 ?_⟩
        have : i' ≠ m := fun hh => h4 (hh ▸ h7)
        omega
      · rintro ⟨i, h1, h2, h5, h6⟩
        have : i ≠ m := fun hh => h3 (hh ▸ h2)
        exact ⟨i, by omega, h2, h5, fun i' h7 h8 h9 => h6 i' h7 h8 (by omega)⟩
    generalize hcm : c m = k at st
    cases st with
    | skip hw hv hs => rw [hs]; exact ih.trans (key (by omega) (by omega))
    | pure hw hc he hv hs => rw [hs]; exact ih.trans (key (by omega) (by omega))
    | read hw hc he hv hs => rw [hs]; exact ih.trans (key (by omega) (by omega))
    | make hw hc he hv hb hs =>
      rw [hs]
      simp only [List.mem_cons]
      constructor
      · rintro (hx | hx)
        · exact ⟨m, by omega, hcm, hx, fun i' h7 h8 h9 => by omega⟩
        · obtain ⟨i, h1, h2, h5, h6⟩ := ih.1 hx
          refine ⟨i, by omega, h2, h5, fun i' h7 h8 h9 => h6 i' h7 h8 ?_⟩
          have : i' ≠ m := fun hh => by rw [hh, hcm] at h7; cases h7
          omega
      · rintro ⟨i, h1, h2, h5, h6⟩
        by_cases him : i = m
        · subst him; exact .inl h5
        · exact .inr (ih.2 ⟨i, by omega, h2, h5, fun i' h7 h8 h9 => h6 i' h7 h8 (by omega)⟩)
    | eff hw hc he hv hs =>
      rw [hs]
      rw [mem_pick, ih]
      constructor
      · rintro ⟨⟨i, h1, h2, h5, h6⟩, h7⟩
        refine ⟨i, by omega, h2, h5, fun i' h8 h9 h10 => ?_⟩
        by_cases him : i' = m
        · subst him; rw [h5] at h7; exact h7
        · exact h6 i' h8 h9 (by omega)
      · rintro ⟨i, h1, h2, h5, h6⟩
        have him : i ≠ m := fun hh => by rw [hh, hcm] at h2; cases h2
        refine ⟨⟨i, by omega, h2, h5, fun i' h8 h9 h10 => h6 i' h8 h9 (by omega)⟩, ?_⟩
        rw [h5]
        exact h6 m hcm (by omega) (by omega)
end
end Go.Ev
