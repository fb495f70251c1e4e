/- An evaluator of the model's code: regions that draw their order. -/
import Derived.Test.YtnklmadmenkdoaaGreatEvY
set_option linter.unusedVariables false
set_option linter.unusedSimpArgs false
set_option linter.unusedSectionVars false
namespace Go.Ev
variable {D : List Deferred}
variable {P : Program} {pr : Prims} {ih : Rn} {e : Env} {t0 : T V} {h : H} {w : World} {a : Act} {o : Oper}
variable {all : List Oper} {σ : Nat → St} {v : Nat → V} {b : Nat → B} {c : Nat → Nat} {h0 : H} {s0 lim : Nat} {w0 : World}
/-- Where the operations of a set have come up. -/
structure Inv (D : List Deferred) (all : List Oper) (t0 : T V) (h0 : H) (s0 lim : Nat) (σ : Nat → St) (v : Nat → V) (b : Nat → B) (c : Nat → Nat) (e : Env) (w0 : World) (L : Nat → Bool) (ρ : Env) (tX : T V) (g : H) (sX : Nat) (a : Act) (w : World) : Prop where
  ar : AR D ρ tX a
  tx : TX all v t0 L tX
  px : PX e s0 h0 w0 ρ g w
  ge : lim ≤ sX
  st : Stage all h0 lim σ c L g sX
  own : ∀ i, i < all.length → c i = 3 → L i = true → (∀ i', i' < all.length → c i' = 4 → L i' = true → i < i' → (nthN (masks all []) i').testBit i = false) → Own ρ w w0 g (σ i).q (b i)
  low : ∀ i, i < all.length → c i = 3 → L i = true → ∃ x, ρ (σ i).q = some x ∧ x.n < w.heap.size
  sep : ∀ i i', i < all.length → i' < all.length → c i = 3 → c i' = 3 → L i = true → L i' = true → i ≠ i' → ∀ x x', ρ (σ i).q = some x → ρ (σ i').q = some x' → x.n ≠ x'.n
  free : ∀ x, sX ≤ x → ρ x = none
  fresh : ∀ i, i < all.length → c i = 3 → L i = false → ρ (σ i).q = none
def more (L : Nat → Bool) (i : Nat) : Nat → Bool := fun j => L j || decide (j = i)
theorem more_ne {L : Nat → Bool} {i j : Nat} (h : j ≠ i) : more L i j = L j := by simp [more, h]
theorem more_self (L : Nat → Bool) (i : Nat) : more L i i = true := by simp [more]
theorem want_congr {t t' : T V} (h : ∀ u ∈ looks all o, t.get un u = t'.get un u) : want all t o.guard = want all t' o.guard := by
  unfold want
  cases hg : o.guard with
  | none => rfl
  | some p =>
    obtain ⟨j, y⟩ := p
    simp only
    cases hd : all.drop j with
    | nil => rfl
    | cons q rest =>
      simp only
      cases hq : q.dst with
      | none => rfl
      | some d =>
        simp only
        rw [h d (by unfold looks; rw [hg]; simp only [hd, hq]; simp)]
theorem opF_looks {t t' : T V} {h : H} {s : Nat} {k : K} (hl : ∀ u ∈ looks all o, t.get un u = t'.get un u) : opF o.op P pr ih t h s k = opF o.op P pr ih t' h s k :=
  opF_congr (fun x hx f => opnd_congr (fun u hu => hl u (by
    subst hu
    unfold looks opTmps
    exact List.mem_append_left _ (List.mem_filterMap.2 ⟨_, hx, rfl⟩))) f)
theorem kid0_val {v : V} {g : H} {s : Nat} {t' : T V} {h' : H} {s' : Nat} (h : kid0 v g s = .norm t' h' s') : t'.get un 0 = v := by
  unfold kid0 at h
  injection h with h1 h2 h3
  subst h1; rfl
section
variable (R : Rgn all P pr ih t0 h0 s0 lim σ v b c) {L : Nat → Bool} {ρ : Env} {tX : T V} {g : H} {sX : Nat}
include R
theorem Rgn.agree (cl : Closed all L) {i : Nat} (ho : all[i]? = some o) (hr : ∀ e ∈ o.after, Region.binds .any e = true → L e.on = true) (hL : L i = false) (tx : TX all v t0 L tX) : ∀ u ∈ looks all o, (σ i).t.get un u = tX.get un u := fun u hu =>
  (R.tx i (by have := R.lt ho; omega)).agree R.hd tx (fun j o' ho' hd' => by
    by_cases hj : j = i
    · subst hj; rw [hL]; simp
    · have hb := (R.hd.pair i o ho j o' ho' hj).look u hd' hu
      obtain ⟨h1, h2⟩ := R.ready cl ho hr hb
      rw [h1]; simpa using h2)
/-- An operation that leaves memory. -/
theorem Inv.idle (I : Inv D all t0 h0 s0 lim σ v b c e w0 L ρ tX g sX a w) {i : Nat} (ho : all[i]? = some o) (hL : L i = false) (h3 : c i ≠ 3) (h4 : c i ≠ 4) {x : Value} (hx : VR ρ (v i) x) :
    Inv D all t0 h0 s0 lim σ v b c e w0 (more L i) ρ (putT o.dst tX (v i)) g sX (a.put o.dst x) w := by
  have n3 : ∀ j, c j = 3 → more L i j = L j := fun j hj => more_ne (fun hh => h3 (by rw [← hh]; exact hj))
  have n4 : ∀ j, c j = 4 → more L i j = L j := fun j hj => more_ne (fun hh => h4 (by rw [← hh]; exact hj))
  refine ⟨I.ar.put hx, I.tx.put R.hd ho hL, I.px, I.ge, ?_, fun j hj hc hl hm => ?_, fun j hj hc hl => ?_, fun j j' hj hj' hc hc' hl hl' => ?_, I.free, fun j hj hc hl => ?_⟩
  · rcases I.st with ⟨i0, k1, k2, k3, k4, k5, k6⟩ | ⟨k1, k2, k3⟩
    · exact .inl ⟨i0, k1, k2, by rw [n4 i0 k2]; exact k3, fun i' m1 m2 m3 => k4 i' m1 m2 (by rwa [n4 i' m2] at m3), k5, k6⟩
    · exact .inr ⟨fun j m1 m2 => by rw [n4 j m2]; exact k1 j m1 m2, k2, k3⟩
  · exact I.own j hj hc (by rwa [n3 j hc] at hl) (fun i' m1 m2 m3 m4 => hm i' m1 m2 (by rw [n4 i' m2]; exact m3) m4)
  · exact I.low j hj hc (by rwa [n3 j hc] at hl)
  · exact I.sep j j' hj hj' hc hc' (by rwa [n3 j hc] at hl) (by rwa [n3 j' hc'] at hl')
  · exact I.fresh j hj hc (by rwa [n3 j hc] at hl)
/-- An operation that makes a block. -/
theorem Inv.made (I : Inv D all t0 h0 s0 lim σ v b c e w0 L ρ tX g sX a w) {i : Nat} (ho : all[i]? = some o) (hL : L i = false) (h3 : c i = 3) {x : Value} {ob : Obj} {sz : Nat} (hg : b i ≠ .gone)
    (hx : ∀ ρ', ρ.le ρ' → ρ' (σ i).q = some ⟨w.heap.size, 0, sz⟩ → VR ρ' (v i) x ∧ BR ρ' ⟨w.heap.size, 0, sz⟩ (b i) ob) :
    ∃ ρ', Inv D all t0 h0 s0 lim σ v b c e w0 (more L i) ρ' (putT o.dst tX (v i)) g sX (a.put o.dst x) (w.alloc ob) := by
  have hi := R.lt ho
  have hq := R.qlim h3 hi
  have hnone := I.fresh i hi h3 hL
  have hle : ρ.le (fun y => if y = (σ i).q then some ⟨w.heap.size, 0, sz⟩ else ρ y) := by
    intro y z hz
    by_cases hy : y = (σ i).q
    · subst hy; rw [hnone] at hz; cases hz
    · simp only [hy, if_false]; exact hz
  have hself : (fun y => if y = (σ i).q then some (⟨w.heap.size, 0, sz⟩ : Loc) else ρ y) (σ i).q = some ⟨w.heap.size, 0, sz⟩ := by simp
  obtain ⟨hv, hb⟩ := hx _ hle hself
  have hlv : ∀ y, live g y → y ≠ (σ i).q := fun y hl hy => by
    obtain ⟨z, o', h1, _⟩ := I.px.sim.blk y hl
    rw [hy, hnone] at h1; cases h1
  have hin : ∀ y z, live g y → ρ y = some z → z.n < w.heap.size := fun y z hl hz => by
    obtain ⟨z', o', h1, h2, _⟩ := I.px.sim.blk y hl
    rw [hz] at h1; injection h1 with h1; subst h1
    exact (Array.getElem?_eq_some_iff.1 h2).1
  have hpush : ∀ n o', w.heap[n]? = some o' → (w.alloc ob).heap[n]? = some o' := fun n o' hn => by
    obtain ⟨h1, h2⟩ := Array.getElem?_eq_some_iff.1 hn
    show (w.heap.push ob)[n]? = _
    rw [Array.getElem?_push_lt h1, h2]
  have hsize : (w.alloc ob).heap.size = w.heap.size + 1 := by show (w.heap.push ob).size = _; simp
  have hqne : ∀ j, j < all.length → c j = 3 → j ≠ i → (σ j).q ≠ (σ i).q := fun j hj hc hne => by
    rcases Nat.lt_or_gt_of_ne hne with h1 | h1
    · have := R.qlt hc h1 (by omega); omega
    · have := R.qlt h3 h1 (by omega); omega
  refine ⟨_, (I.ar.mono hle).put hv, I.tx.put R.hd ho hL, ⟨I.px.le.trans hle, fun y hy => ?_, ⟨fun y hl => ?_, fun y y' z z' hl hl' hz hz' hn => ?_⟩, fun y z hl hz => ?_, fun n hn hk => ?_, ?_, I.px.os, I.px.tape, I.px.output⟩, I.ge, ?_, fun j hj hc hl hm => ?_, fun j hj hc hl => ?_, fun j j' hj hj' hc hc' hl hl' hne z z' hz hz' => ?_, fun y hy => ?_, fun j hj hc hl => ?_⟩
  · simp only [show y ≠ (σ i).q by omega, if_false]; exact I.px.low y hy
  · obtain ⟨z, o', h1, h2, h4⟩ := I.px.sim.blk y hl
    exact ⟨z, o', by simp [hlv y hl, h1], hpush _ _ h2, h4.mono hle⟩
  · simp only [hlv y hl, hlv y' hl', if_false] at hz hz'
    exact I.px.sim.inj y y' z z' hl hl' hz hz' hn
  · simp only [hlv y hl, if_false] at hz
    exact I.px.dom y z hl hz
  · have h1 := I.px.keep n hn hk
    rw [← h1]
    have hlt : n < w.heap.size := Nat.lt_of_lt_of_le hn I.px.size
    show (w.heap.push ob)[n]? = _
    rw [Array.getElem?_push_lt hlt]; simp [hlt]
  · rw [hsize]; have := I.px.size; omega
  · have h4' : ∀ j, c j = 4 → more L i j = L j := fun j hj => more_ne (fun hh => by rw [hh, h3] at hj; cases hj)
    rcases I.st with ⟨i0, k1, k2, k3, k4, k5, k6⟩ | ⟨k1, k2, k3⟩
    · exact .inl ⟨i0, k1, k2, by rw [h4' i0 k2]; exact k3, fun i' m1 m2 m3 => k4 i' m1 m2 (by rwa [h4' i' m2] at m3), k5, k6⟩
    · exact .inr ⟨fun j m1 m2 => by rw [h4' j m2]; exact k1 j m1 m2, k2, k3⟩
  · by_cases hji : j = i
    · subst hji
      refine ⟨⟨w.heap.size, sz, ob, by simp, ?_, hb, I.px.size, fun y z hl hz => ?_⟩, hg⟩
      · show (w.heap.push ob)[w.heap.size]? = _; simp
      · simp only [hlv y hl, if_false] at hz
        have := hin y z hl hz; omega
    · rw [more_ne hji] at hl
      have h4' : ∀ k, c k = 4 → more L i k = L k := fun k hk => more_ne (fun hh => by rw [hh, h3] at hk; cases hk)
      obtain ⟨⟨n, sz', o', g1, g2, g3, g4, g5⟩, g6⟩ := I.own j hj hc hl (fun i' m1 m2 m3 m4 => hm i' m1 m2 (by rw [h4' i' m2]; exact m3) m4)
      exact ⟨⟨n, sz', o', by simp [hqne j hj hc hji, g1], hpush _ _ g2, g3.mono hle, g4, fun y z hl' hz => by
        simp only [hlv y hl', if_false] at hz
        exact g5 y z hl' hz⟩, g6⟩
  · by_cases hji : j = i
    · subst hji; exact ⟨⟨w.heap.size, 0, sz⟩, by simp, by rw [hsize]; exact Nat.lt_succ_self _⟩
    · rw [more_ne hji] at hl
      obtain ⟨z, g1, g2⟩ := I.low j hj hc hl
      exact ⟨z, by simp [hqne j hj hc hji, g1], by rw [hsize]; omega⟩
  · by_cases hji : j = i
    · subst hji
      have hji' : j' ≠ j := fun hh => hne hh.symm
      rw [more_ne hji'] at hl'
      obtain ⟨y, g1, g2⟩ := I.low j' hj' hc' hl'
      simp at hz; subst hz
      simp only [hqne j' hj' hc' hji', if_false] at hz'
      rw [g1] at hz'; injection hz' with hz'; subst hz'
      simp only; omega
    · rw [more_ne hji] at hl
      simp only [hqne j hj hc hji, if_false] at hz
      by_cases hji' : j' = i
      · subst hji'
        obtain ⟨y, g1, g2⟩ := I.low j hj hc hl
        simp at hz'; subst hz'
        rw [g1] at hz; injection hz with hz; subst hz
        simp only; omega
      · rw [more_ne hji'] at hl'
        simp only [hqne j' hj' hc' hji', if_false] at hz'
        exact I.sep j j' hj hj' hc hc' hl hl' hne z z' hz hz'
  · have := I.ge
    simp only [show y ≠ (σ i).q by omega, if_false]; exact I.free y hy
  · have hji : j ≠ i := fun hh => by rw [hh, more_self] at hl; cases hl
    rw [more_ne hji] at hl
    simp only [hqne j hj hc hji, if_false]
    exact I.fresh j hj hc hl
end
end Go.Ev
