/- An evaluator of the model's code: a region that draws its order is followed rightly. -/
import Derived.Test.YtgidckkcibplgaaGreatEvZb
set_option linter.unusedVariables false
set_option linter.unusedSimpArgs false
set_option linter.unusedSectionVars false
namespace Go.Ev
variable {D : List Deferred}
variable {P : Program} {pr : Prims} {ih : Rn} {e : Env} {t : T V} {h : H} {s : Nat} {w : World} {a : Act} {o : Oper}
theorem count_le {p q : Nat → Bool} (h : ∀ x, q x = true → p x = true) : ∀ l : List Nat, l.countP q ≤ l.countP p
  | [] => Nat.le_refl _
  | x :: l => by
    rw [List.countP_cons, List.countP_cons]
    have := count_le h l
    cases hq : q x with
    | true => rw [h x hq]; simp; exact this
    | false => simp; omega
theorem count_lt {p q : Nat → Bool} (h : ∀ x, q x = true → p x = true) {i : Nat} (hp : p i = true) (hq : q i = false) : ∀ l : List Nat, i ∈ l → l.countP q < l.countP p
  | [], hi => by cases hi
  | x :: l, hi => by
    rw [List.countP_cons, List.countP_cons]
    rcases List.mem_cons.1 hi with rfl | hi
    · rw [hp, hq]; have := count_le h l; simp; omega
    · have := count_lt h hp hq l hi
      cases hx : q x with
      | true => rw [h x hx]; simp; exact this
      | false => simp; omega
def listedB (l : Array Bool) (j : Nat) : Bool := l.getD j false
theorem listed_set {l : Array Bool} {i : Nat} (hi : i < l.size) : listedB (l.setIfInBounds i true) = more (listedB l) i := by
  funext j
  unfold listedB more
  by_cases hj : j = i
  · subst hj; simp [hi]
  · simp only [Array.getD_eq_getD_getElem?]
    rw [Array.getElem?_setIfInBounds_ne (Ne.symm hj)]
    simp [hj]
theorem mem_ready' {all : List Oper} {l : Array Bool} {i : Nat} (hl : l.size = all.length) : i ∈ Region.ready .any all.toArray l ↔ ∃ o, all[i]? = some o ∧ listedB l i = false ∧ ∀ e ∈ o.after, Region.binds .any e = true → listedB l e.on = true := by
  unfold Region.ready
  rw [List.mem_filter, List.mem_range]
  simp only [List.size_toArray, Bool.and_eq_true, Bool.not_eq_true']
  constructor
  · rintro ⟨h1, h2, h3⟩
    have hget : all.toArray[i]? = some all[i] := by simp [h1]
    rw [hget] at h3
    simp only [Option.map_some, Option.getD_some] at h3
    refine ⟨all[i], by simp [h1], ?_, fun e he hb => ?_⟩
    · unfold listedB
      rw [Array.getD_eq_getD_getElem?] at h2 ⊢
      have hlt : i < l.size := by omega
      rw [Array.getElem?_eq_getElem hlt] at h2 ⊢
      simpa using h2
    · have := Array.all_eq_true_iff_forall_mem.1 h3 e he
      simp only [hb, Bool.not_true, Bool.false_or] at this
      exact this
  · rintro ⟨o, ho, h2, h3⟩
    have h1 : i < all.length := (List.getElem?_eq_some_iff.1 ho).1
    refine ⟨h1, ?_, ?_⟩
    · unfold listedB at h2
      rw [Array.getD_eq_getD_getElem?] at h2 ⊢
      have hlt : i < l.size := by omega
      rw [Array.getElem?_eq_getElem hlt] at h2 ⊢
      simpa using h2
    · have hget : all.toArray[i]? = some o := by simpa using ho
      rw [hget]
      simp only [Option.map_some, Option.getD_some]
      rw [Array.all_eq_true_iff_forall_mem]
      intro e he
      cases hb : Region.binds .any e with
      | false => rfl
      | true => have h4 := h3 e he hb; unfold listedB at h4; rw [h4]; rfl
section
variable {all : List Oper} {σ : Nat → St} {v : Nat → V} {b : Nat → B} {c : Nat → Nat} {t0 : T V} {h0 : H} {s0 lim : Nat} {w0 : World}
variable (R : Rgn all P pr ih t0 h0 s0 lim σ v b c)
include R
theorem Rgn.all_listed {l : Array Bool} (hl : l.size = all.length) (hr : Region.ready .any all.toArray l = []) : ∀ n i, i < n → i < all.length → listedB l i = true
  | 0, i, h1, h2 => by omega
  | n + 1, i, h1, h2 => by
    cases hLi : listedB l i with
    | true => rfl
    | false =>
      obtain ⟨o, ho⟩ := R.at h2
      have : i ∈ Region.ready .any all.toArray l := (mem_ready' hl).2 ⟨o, ho, hLi, fun e he hb => by
        have := R.hd.edge i o ho e he hb
        exact Rgn.all_listed hl hr n e.on (by omega) (by omega)⟩
      rw [hr] at this; cases this
theorem Rgn.any (hih : SoundRn P ih) (hpr : SoundPr P pr) {Q : Exit → Act → World → Prop} (hQ : ∀ L ρ tX g sX a w, Inv D all t0 h0 s0 lim σ v b c e w0 L ρ tX g sX a w → (∀ i, i < all.length → L i = true) → Q .normal a w) :
    ∀ (f : Nat) (l : Array Bool) (a : Act) (w : World), l.size = all.length → (List.range all.length).countP (fun i => !listedB l i) ≤ f → Closed all (listedB l) → (∃ ρ tX g sX, Inv D all t0 h0 s0 lim σ v b c e w0 (listedB l) ρ tX g sX a w) → wpAny P .any all.toArray Q f l a w
  | 0, l, a, w, hl, hf, cl, hI => by
    have hall : ∀ i, i < all.length → listedB l i = true := fun i hi => by
      cases hLi : listedB l i with
      | true => rfl
      | false =>
        have : 0 < (List.range all.length).countP (fun i => !listedB l i) := List.countP_pos_iff.2 ⟨i, List.mem_range.2 hi, by simp [hLi]⟩
        omega
    obtain ⟨ρ, tX, g, sX, I⟩ := hI
    refine ⟨?_, hQ _ _ _ _ _ _ _ I hall⟩
    rw [List.eq_nil_iff_forall_not_mem]
    intro i hi
    obtain ⟨o, ho, h1, _⟩ := (mem_ready' hl).1 hi
    rw [hall i (R.lt ho)] at h1; cases h1
  | f + 1, l, a, w, hl, hf, cl, hI => by
    obtain ⟨ρ, tX, g, sX, I⟩ := hI
    refine ⟨fun hr => hQ _ _ _ _ _ _ _ I (fun i hi => R.all_listed hl hr (i + 1) i (by omega) hi), fun i hi => ?_⟩
    obtain ⟨o, ho, h1, h2⟩ := (mem_ready' hl).1 hi
    have hi' := R.lt ho
    refine I.step R hih hpr cl ho h2 h1 (fun ρ' tX' g' s' a' w' I' => ?_)
    refine Rgn.any hih hpr hQ f (l.setIfInBounds i true) a' w' (by simpa using hl) ?_ ?_ ?_
    · rw [listed_set (by omega)]
      have := count_lt (p := fun j => !listedB l j) (q := fun j => !more (listedB l) i j) (fun x hx => by
        unfold more at hx
        cases hlx : listedB l x with
        | true => rw [hlx] at hx; cases hx
        | false => rfl) (i := i) (by simp [h1]) (by simp [more_self]) (List.range all.length) (List.mem_range.2 hi')
      omega
    · rw [listed_set (by omega)]
      intro j oj hoj hlj e he hb
      by_cases hji : j = i
      · subst hji
        rw [ho] at hoj; injection hoj with hoj; subst hoj
        unfold more; rw [h2 e he hb]; rfl
      · rw [more_ne hji] at hlj
        unfold more; rw [cl j oj hoj hlj e he hb]; rfl
    · rw [listed_set (by omega)]; exact ⟨ρ', tX', g', s', I'⟩
end
/-- A region that draws its order. -/
theorem drawn_ok {id : Nat} {ops : Array Oper} (hm : P.follows .mixedOrders = true) (hih : SoundRn P ih) (hpr : SoundPr P pr) (hr : (drawn ops.toList P pr ih t h s).good) (ha : AR D e t a) (hs : Sim e h w) (hf : Free e s) :
    (Code.region id ops true).wp P (LR D (drawn ops.toList P pr ih t h s) e s h w) a w := by
  unfold drawn at hr ⊢
  obtain ⟨hd, hres⟩ := bif_ok rfl (by simp [RO.good]) hr
  rw [← hres]
  rw [← hres] at hr
  generalize hrr : dpass ops.toList (masks ops.toList []) (Nat.add s (makes ops.toList)) P pr ih ops.toList 0 t h (Nat.add s (makes ops.toList)) s [] [] [] = r at hr ⊢
  obtain ⟨σ, v, b, c, h1, tr, h3, h4⟩ := dpass_ok (all := ops.toList) (l := ops.toList) (pre := []) rfl hrr hr
  simp only [List.length_nil] at h1 tr
  have R : Rgn ops.toList P pr ih t h s (s + makes ops.toList) σ v b c := ⟨drawOk_ok hd, tr, h1, h4⟩
  subst h3
  refine wp_region_any hm ?_
  have hsz : ops.toList.length = ops.size := by simp
  have := R.any (e := e) (w0 := { w with drawn := w.drawn + 1 }) hih hpr (Q := LR D (.norm (σ ops.toList.length).t (addAll (σ ops.toList.length).al (σ ops.toList.length).g) (σ ops.toList.length).s) e s h w) (fun L ρ tX g sX a' w' I hall => by
    obtain ⟨k1, k2⟩ := I.done R hall
    exact ⟨rfl, ρ, k1, Post.drew (w₁ := { w with drawn := w.drawn + 1 }) rfl rfl rfl rfl k2⟩) ops.size (Array.replicate ops.size false) a { w with drawn := w.drawn + 1 } (by simp) (by
      have := List.countP_le_length (p := fun i => !listedB (Array.replicate ops.size false) i) (l := List.range ops.toList.length)
      simpa using this) (fun j o hj hl => by
        unfold listedB at hl
        rw [Array.getD_eq_getD_getElem?, Array.getElem?_replicate] at hl
        split at hl <;> cases hl) (by
        have hnone : ∀ j, listedB (Array.replicate ops.size false) j = false := fun j => by
          unfold listedB
          rw [Array.getD_eq_getD_getElem?, Array.getElem?_replicate]
          split <;> rfl
        refine ⟨e, t, h, s + makes ops.toList, ha, ⟨fun d => rfl, fun j o d _ hl => (by rw [hnone] at hl; cases hl), fun d _ => rfl⟩, PX.refl (hs.drew _ rfl), Nat.le_refl _, .inr ⟨fun i _ _ => hnone i, by rw [R.z], by rw [R.z]⟩, fun i _ _ hl => (by rw [hnone] at hl; cases hl), fun i _ _ hl => (by rw [hnone] at hl; cases hl), fun i i' _ _ _ _ hl => (by rw [hnone] at hl; cases hl), fun x hx => hf x (by omega), fun i hi hc _ => hf _ (R.qlim hc hi).1⟩)
  simpa using this
end Go.Ev
