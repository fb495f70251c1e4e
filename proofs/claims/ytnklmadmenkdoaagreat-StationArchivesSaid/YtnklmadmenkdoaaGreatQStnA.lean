/- Regions that draw their order: one walk in an order of our choice serves every order, if each operation without effect is taken as soon as it may come up, and the operations with an effect come up one at a time (or two at a time, each walked first). No program in sight. Steps of a walk upon a list of assertions: the store of a struct, of a cell; a result that lies in a cell. The station's parts when they are new: the contracts of the constructors. -/
import Derived.StillTail
import Derived.Deep.QuietTactic
import Derived.Test.YtnklmadmenkdoaaGreatQSepc
import Derived.Test.YtnklmadmenkdoaaGreatProg
import Derived.Laws.IdiomCopy
import Derived.Laws.ResultCell
import Derived.Outline
import Derived.WideShapes
import Derived.WalkSpells
import Derived.WalkKit
import Derived.Carry
set_option linter.unusedVariables false
set_option linter.unusedSimpArgs false
namespace Go
inductive Ord where
  | nil : Ord
  | pure : Nat → Ord → Ord
  | eff : Nat → Ord → Ord
  | eff2 : Nat → Nat → Ord → Ord → Ord
def Ord.len : Ord → Nat
  | .nil => 0
  | .pure _ t => t.len + 1
  | .eff _ t => t.len + 1
  | .eff2 _ _ t _ => t.len + 1
abbrev WP := World → Prop
variable {P : Program} {ops : Array Oper} {md : Region.Mode}
/-- Every operation that has come up has those before it that it waits for. -/
def Closed (md : Region.Mode) (ops : Array Oper) (listed : Array Bool) : Prop :=
  ∀ j oj, ops[j]? = some oj → listed.getD j false = true → ∀ e ∈ oj.after, Region.binds md e = true → listed.getD e.on false = true
theorem Closed.set {listed : Array Bool} (cl : Closed md ops listed) {i : Nat} (hi : i ∈ Region.ready md ops listed) : Closed md ops (listed.setIfInBounds i true) := by
  obtain ⟨_, oi, hoi, hall⟩ := mem_ready.1 hi
  intro j oj hj hl e he hb
  by_cases hij : i = j
  · subst hij
    have : oj = oi := Option.some.inj (hj.symm.trans hoi)
    subst this
    exact getD_set_true (hall e he hb)
  · rw [getD_set_ne false hij] at hl
    exact getD_set_true (cl j oj hj hl e he hb)
theorem Closed.none (n : Nat) : Closed md ops (Array.replicate n false) := fun j oj _ hl => by rw [getD_replicate_false] at hl; cases hl
/-- Operation j waits for i, at once or through others. -/
def reachB (md : Region.Mode) (ops : Array Oper) : Nat → Nat → Nat → Bool
  | 0, _, _ => false
  | f + 1, j, i => match ops[j]? with
    | some oj => oj.after.any fun e => Region.binds md e && (e.on == i || reachB md ops f e.on i)
    | Option.none => false
theorem reach_listed {listed : Array Bool} (cl : Closed md ops listed) (i : Nat) : ∀ (f j : Nat), listed.getD j false = true → reachB md ops f j i = true → listed.getD i false = true
  | 0, _, _, h => by simp [reachB] at h
  | f + 1, j, hj, h => by
    unfold reachB at h
    split at h
    · rename_i oj hoj
      obtain ⟨e, he, hb⟩ := Array.any_eq_true'.1 h
      simp only [Bool.and_eq_true, Bool.or_eq_true, beq_iff_eq] at hb
      have hl := cl j oj hoj hj e he hb.1
      rcases hb.2 with h1 | h1
      · rw [← h1]; exact hl
      · exact reach_listed cl i f e.on hl h1
    · cases h
theorem reach_ready {listed : Array Bool} (cl : Closed md ops listed) {i j f : Nat} (hj : j ∈ Region.ready md ops listed) (h : reachB md ops f j i = true) : listed.getD i false = true := by
  obtain ⟨_, oj, hoj, hall⟩ := mem_ready.1 hj
  cases f with
  | zero => simp [reachB] at h
  | succ f =>
    unfold reachB at h
    simp only [hoj] at h
    obtain ⟨e, he, hb⟩ := Array.any_eq_true'.1 h
    simp only [Bool.and_eq_true, Bool.or_eq_true, beq_iff_eq] at hb
    have hl := hall e he hb.1
    rcases hb.2 with h1 | h1
    · rw [← h1]; exact hl
    · exact reach_listed cl i f e.on hl h1
/-- Every other operation that has not come up waits for i or is apart from it. -/
def freeB (md : Region.Mode) (ops : Array Oper) (listed : Array Bool) (i : Nat) : Bool :=
  match ops[i]? with
  | Option.none => false
  | some oi => (List.range ops.size).all fun j => j == i || listed.getD j true || match ops[j]? with
      | some oj => oi.apart ops oj || reachB md ops ops.size j i
      | Option.none => true
theorem freeB_spec {i : Nat} {oi : Oper} {listed : Array Bool} (hi : ops[i]? = some oi) (h : freeB md ops listed i = true) (j : Nat) (oj : Oper)
    (hj : ops[j]? = some oj) (hne : j ≠ i) (hun : listed.getD j true = false) : oi.apart ops oj = true ∨ reachB md ops ops.size j i = true := by
  simp only [freeB, hi, List.all_eq_true, List.mem_range] at h
  have h1 := h j (Array.getElem?_eq_some_iff.1 hj).1
  simpa [hj, hne, hun] using h1
/-- Each operation that may turn what is read waits for i. -/
def strongB (M : Nat → Bool) (md : Region.Mode) (ops : Array Oper) (i : Nat) : Bool :=
  (List.range ops.size).all fun j => !M j || reachB md ops ops.size j i
theorem strongB_spec {M : Nat → Bool} {i : Nat} (h : strongB M md ops i = true) (j : Nat) (oj : Oper) (hj : ops[j]? = some oj) (hm : M j = true) : reachB md ops ops.size j i = true := by
  simp only [strongB, List.all_eq_true, List.mem_range] at h
  have h1 := h j (Array.getElem?_eq_some_iff.1 hj).1
  simpa [hm] using h1
def ordB (M : Nat → Bool) (md : Region.Mode) (ops : Array Oper) : Ord → Array Bool → Bool
  | .nil, listed => (Region.ready md ops listed).isEmpty
  | .pure i t, listed => (Region.ready md ops listed).contains i && freeB md ops listed i && strongB M md ops i && ordB M md ops t (listed.setIfInBounds i true)
  | .eff i t, listed => Region.ready md ops listed == [i] && ordB M md ops t (listed.setIfInBounds i true)
  | .eff2 i j t u, listed => Region.ready md ops listed == [i, j] && t.len == u.len && ordB M md ops t (listed.setIfInBounds i true) && ordB M md ops u (listed.setIfInBounds j true)
/-- What an operation with an effect leaves: a new class of worlds for what is read, and the state. -/
def effUpon (P : Program) (L : Prop) (dst : Option Tmp) (a : Act) (D : WP) (K : Act → WP → WP → Prop) : Result Next → Prop
  | .ok (.value u) w' => ∃ D' S' : WP, S' w' ∧ (∀ w, S' w → D' w) ∧ (L ∨ ∀ w, D' w → D w) ∧ K (a.put dst u) D' S'
  | .ok .skip w' => ∃ D' S' : WP, S' w' ∧ (∀ w, S' w → D' w) ∧ (L ∨ ∀ w, D' w → D w) ∧ K (a.put dst undef) D' S'
  | .ok (.enter f args) w' => Calls P f args w' (fun e w'' => ∃ u, e = .returned u ∧ ∃ D' S' : WP, S' w'' ∧ (∀ w, S' w → D' w) ∧ (L ∨ ∀ w, D' w → D w) ∧ K (a.put dst u) D' S')
  | .ok (.row row args) w' => Rows P row args w' (fun u w'' => ∃ D' S' : WP, S' w'' ∧ (∀ w, S' w → D' w) ∧ (L ∨ ∀ w, D' w → D w) ∧ K (a.put dst u) D' S')
  | _ => False
theorem effUpon_mono {L : Prop} {dst : Option Tmp} {a b : Act} {D : WP} {K K' : Act → WP → WP → Prop} (h : ∀ u D' S', (L ∨ ∀ w, D' w → D w) → K (a.put dst u) D' S' → K' (b.put dst u) D' S') {r : Result Next} (hh : effUpon P L dst a D K r) : effUpon P L dst b D K' r := by
  cases r with
  | halt x w' => cases x <;> exact hh
  | ok n w' =>
    cases n with
    | value u => obtain ⟨D', S', h1, h2, h3, h4⟩ := hh; exact ⟨D', S', h1, h2, h3, h u D' S' h3 h4⟩
    | skip => obtain ⟨D', S', h1, h2, h3, h4⟩ := hh; exact ⟨D', S', h1, h2, h3, h _ D' S' h3 h4⟩
    | enter f args => exact Calls.mono hh (fun e w'' ⟨u, he, D', S', h1, h2, h3, h4⟩ => ⟨u, he, D', S', h1, h2, h3, h u D' S' h3 h4⟩)
    | row row args => exact Rows.mono hh (fun u w'' ⟨D', S', h1, h2, h3, h4⟩ => ⟨D', S', h1, h2, h3, h u D' S' h3 h4⟩)
    | _ => exact hh
/-- Operation j comes up. -/
def eOp (P : Program) (ops : Array Oper) (L : Prop) (j : Nat) (K : Act → WP → WP → Prop) (a : Act) (D S : WP) : Prop :=
  match ops[j]? with
  | none => False
  | some o => if Region.wanted o (yielded ops a.tmps) = true then (∃ v, (∀ w, D w → (execOp a.eval o).run P w = .ok (.value v) w) ∧ K (a.put o.dst v) D S) ∨ (∀ w, S w → effUpon P L o.dst a D K ((execOp a.eval o).run P w))
    else K (a.put o.dst undef) D S
def ordG (P : Program) (M : Nat → Bool) (md : Region.Mode) (ops : Array Oper) (Q : Exit → Act → World → Prop) : Nat → Array Bool → Act → WP → WP → Prop
  | 0, listed, a, D, S => Region.ready md ops listed = [] ∧ ∀ w, S w → Q .normal a w
  | f + 1, listed, a, D, S => Region.ready md ops listed ≠ [] ∧ ∀ j ∈ Region.ready md ops listed, eOp P ops (M j = true) j (ordG P M md ops Q f (listed.setIfInBounds j true)) a D S
theorem wpOp_of_eOp {L : Prop} {j : Nat} {K : Act → WP → WP → Prop} {K' : Act → World → Prop} {Q : Exit → Act → World → Prop} {a : Act} {D S : WP} {w : World} (hS : S w) (hSD : ∀ w, S w → D w)
    (h : ∀ a D S w, S w → (∀ w, S w → D w) → K a D S → K' a w) (hh : eOp P ops L j K a D S) : wpOp P ops Q j K' a w := by
  unfold eOp at hh
  unfold wpOp
  split
  · rename_i ho; simp only [ho] at hh
  · rename_i o ho
    simp only [ho] at hh
    split
    · rename_i hw
      rw [if_pos hw] at hh
      left
      rcases hh with ⟨v, hv, hk⟩ | he
      · unfold Oper.wp
        rw [hv w (hSD w hS)]
        exact h _ _ _ _ hS hSD hk
      · have h1 := he w hS
        unfold Oper.wp
        generalize (execOp a.eval o).run P w = r at *
        cases r with
        | halt x w' => cases x <;> exact h1.elim
        | ok n w' =>
          cases n with
          | value u => obtain ⟨D', S', g1, g2, g3, g4⟩ := h1; exact h _ _ _ _ g1 g2 g4
          | skip => obtain ⟨D', S', g1, g2, g3, g4⟩ := h1; exact h _ _ _ _ g1 g2 g4
          | enter f args => exact Calls.mono h1 (fun e w'' ⟨u, he, D', S', g1, g2, g3, g4⟩ => by subst he; exact h _ _ _ _ g1 g2 g4)
          | row row args => exact Rows.mono h1 (fun u w'' ⟨D', S', g1, g2, g3, g4⟩ => h _ _ _ _ g1 g2 g4)
          | _ => exact h1.elim
    · rename_i hw
      rw [if_neg hw] at hh
      exact h _ _ _ _ hS hSD hh
theorem wpAny_of_ordG {M : Nat → Bool} {Q : Exit → Act → World → Prop} : ∀ (f : Nat) (listed : Array Bool) (a : Act) (D S : WP) (w : World), S w → (∀ w, S w → D w) → ordG P M md ops Q f listed a D S → wpAny P md ops Q f listed a w
  | 0, _, _, _, _, w, hS, _, h => ⟨h.1, h.2 w hS⟩
  | f + 1, _, _, _, _, w, hS, hSD, h => ⟨fun h0 => absurd h0 h.1, fun j hj => wpOp_of_eOp hS hSD (fun a D S w hS hSD hk => wpAny_of_ordG f _ a D S w hS hSD hk) (h.2 j hj)⟩
/-- In every world of the class the operation yields v. -/
def YieldsD (P : Program) (ops : Array Oper) (D : WP) (o : Oper) (v : Value) (a : Act) : Prop :=
  (Region.wanted o (yielded ops a.tmps) = true ∧ ∀ w, D w → (execOp a.eval o).run P w = .ok (.value v) w) ∨ (Region.wanted o (yielded ops a.tmps) = false ∧ v = undef)
theorem YieldsD.mono {D D' : WP} {o : Oper} {v : Value} {a : Act} (h : YieldsD P ops D o v a) (hd : ∀ w, D' w → D w) : YieldsD P ops D' o v a := by
  rcases h with ⟨h1, h2⟩ | h
  · exact Or.inl ⟨h1, fun w hw => h2 w (hd w hw)⟩
  · exact Or.inr h
theorem YieldsD.eOp {L : Prop} {i : Nat} {o : Oper} {v : Value} {a : Act} {D S : WP} {K : Act → WP → WP → Prop} (hi : ops[i]? = some o) (hy : YieldsD P ops D o v a) (h : K (a.put o.dst v) D S) : eOp P ops L i K a D S := by
  unfold Go.eOp
  simp only [hi]
  rcases hy with ⟨hw, hv⟩ | ⟨hw, rfl⟩
  · rw [if_pos hw]; exact Or.inl ⟨v, hv, h⟩
  · rw [if_neg (by simp [hw])]; exact h
theorem ordG_first {M : Nat → Bool} {Q : Exit → Act → World → Prop} {i : Nat} {oi : Oper} {v : Value} (hi : ops[i]? = some oi) (hsel : ∀ (j : Nat) (o : Oper) cs b, ops[j]? = some o → o.op ≠ .select cs b) :
    ∀ (f : Nat) (listed : Array Bool) (a : Act) (D S : WP),
      (∀ j oj, ops[j]? = some oj → j ≠ i → listed.getD j true = false → oi.apart ops oj = true ∨ reachB md ops ops.size j i = true) → (∀ j oj, ops[j]? = some oj → M j = true → reachB md ops ops.size j i = true) → Closed md ops listed →
      i ∈ Region.ready md ops listed → YieldsD P ops D oi v a →
      ordG P M md ops Q f (listed.setIfInBounds i true) (a.put oi.dst v) D S → ordG P M md ops Q (f + 1) listed a D S := by
  intro f
  induction f with
  | zero =>
    intro listed a D S _ _ _ hr hy H
    refine ⟨fun h => (by rw [h] at hr; cases hr), fun j hj => ?_⟩
    by_cases hji : j = i
    · subst hji; exact hy.eOp hi H
    · have := ready_mono hj hji
      rw [H.1] at this
      cases this
  | succ f ih =>
    intro listed a D S hfree hM cl hr hy H
    refine ⟨fun h => (by rw [h] at hr; cases hr), fun j hj => ?_⟩
    by_cases hji : j = i
    · subst hji; exact hy.eOp hi H
    · have h1 := H.2 j (ready_mono hj hji)
      obtain ⟨hjun, oj, hoj, hall⟩ := mem_ready.1 hj
      have hap : oi.apart ops oj = true := by
        rcases hfree j oj hoj hji hjun with h | h
        · exact h
        · have h2 := reach_ready cl hj h
          have h0 := (mem_ready.1 hr).1
          rw [getD_both h0] at h2
          cases h2
      have hMj : ¬ M j = true := fun hm => by
        have h2 := reach_ready cl hj (hM j oj hoj hm)
        have h0 := (mem_ready.1 hr).1
        rw [getD_both h0] at h2
        cases h2
      obtain ⟨a1, a2, a3⟩ := Oper.apart_spec hap
      have hsi := fun cs b => hsel i oi cs b hi
      have hsj := fun cs b => hsel j oj cs b hoj
      have keep : ∀ (D' : WP) (u : Value), (∀ w, D' w → D w) → YieldsD P ops D' oi v (a.put oj.dst u) := fun D' u hd => by
        have k := hy.mono hd
        unfold YieldsD at *
        rw [execOp_put oi hsi a oj.dst u a3, wanted_put oi a oj.dst u a3]
        exact k
      have hfree' : ∀ k ok, ops[k]? = some ok → k ≠ i → (listed.setIfInBounds j true).getD k true = false →
          oi.apart ops ok = true ∨ reachB md ops ops.size k i = true := fun k ok hk hki hun => by
        refine hfree k ok hk hki ?_
        by_cases hjk : j = k
        · subst hjk; exact hjun
        · rw [getD_set_ne true hjk] at hun; exact hun
      have step : ∀ (u : Value) (D' S' : WP), (∀ w, D' w → D w) → ordG P M md ops Q f ((listed.setIfInBounds i true).setIfInBounds j true) ((a.put oi.dst v).put oj.dst u) D' S' →
          ordG P M md ops Q (f + 1) (listed.setIfInBounds j true) (a.put oj.dst u) D' S' := fun u D' S' hd hk => by
        refine ih (listed.setIfInBounds j true) _ D' S' hfree' hM (cl.set hj) (ready_mono hr (Ne.symm hji)) (keep D' u hd) ?_
        rw [Array.setIfInBounds_comm _ _ hji, ← Act.put_comm a v u a2]
        exact hk
      unfold eOp at h1 ⊢
      simp only [hoj] at h1 ⊢
      rw [wanted_put oj a oi.dst v a1] at h1
      split
      · rename_i hw
        rw [if_pos hw] at h1
        rcases h1 with ⟨u, hu, hk⟩ | he
        · left
          refine ⟨u, fun w hw' => ?_, step u D S (fun _ h => h) hk⟩
          have := hu w hw'
          rwa [execOp_put oj hsj a oi.dst v a1] at this
        · right
          intro w hw'
          have := he w hw'
          rw [execOp_put oj hsj a oi.dst v a1] at this
          exact effUpon_mono (fun u D' S' hd hk => step u D' S' (hd.resolve_left hMj) hk) this
      · rename_i hw
        rw [if_neg hw] at h1
        exact step undef D S (fun _ h => h) h1
/-- The walk in the order of our choice. -/
def wpOrd (P : Program) (M : Nat → Bool) (ops : Array Oper) (Q : Exit → Act → World → Prop) : Ord → Act → WP → WP → Prop
  | .nil, a, D, S => ∀ w, S w → Q .normal a w
  | .pure i t, a, D, S => ∃ o v, ops[i]? = some o ∧ YieldsD P ops D o v a ∧ wpOrd P M ops Q t (a.put o.dst v) D S
  | .eff i t, a, D, S => ∃ o, ops[i]? = some o ∧ ((Region.wanted o (yielded ops a.tmps) = true ∧ ∀ w, S w → effUpon P (M i = true) o.dst a D (wpOrd P M ops Q t) ((execOp a.eval o).run P w)) ∨
      (Region.wanted o (yielded ops a.tmps) = false ∧ wpOrd P M ops Q t (a.put o.dst undef) D S))
  | .eff2 i j t u, a, D, S =>
    (∃ o, ops[i]? = some o ∧ ((Region.wanted o (yielded ops a.tmps) = true ∧ ∀ w, S w → effUpon P (M i = true) o.dst a D (wpOrd P M ops Q t) ((execOp a.eval o).run P w)) ∨
      (Region.wanted o (yielded ops a.tmps) = false ∧ wpOrd P M ops Q t (a.put o.dst undef) D S))) ∧
    (∃ o, ops[j]? = some o ∧ ((Region.wanted o (yielded ops a.tmps) = true ∧ ∀ w, S w → effUpon P (M j = true) o.dst a D (wpOrd P M ops Q u) ((execOp a.eval o).run P w)) ∨
      (Region.wanted o (yielded ops a.tmps) = false ∧ wpOrd P M ops Q u (a.put o.dst undef) D S)))
theorem eOp_of_eff {L : Prop} {Q : Exit → Act → World → Prop} {i : Nat} {a : Act} {D S : WP} {K K' : Act → WP → WP → Prop} (hK : ∀ a D S, K a D S → K' a D S)
    (h : ∃ o, ops[i]? = some o ∧ ((Region.wanted o (yielded ops a.tmps) = true ∧ ∀ w, S w → effUpon P L o.dst a D K ((execOp a.eval o).run P w)) ∨
      (Region.wanted o (yielded ops a.tmps) = false ∧ K (a.put o.dst undef) D S))) : eOp P ops L i K' a D S := by
  obtain ⟨o, ho, h⟩ := h
  unfold eOp
  simp only [ho]
  rcases h with ⟨hw, h⟩ | ⟨hw, h⟩
  · rw [if_pos hw]; exact Or.inr fun w hs => effUpon_mono (fun u D' S' _ hk => hK _ _ _ hk) (h w hs)
  · rw [if_neg (by simp [hw])]; exact hK _ _ _ h
theorem ordG_of_wpOrd {M : Nat → Bool} {Q : Exit → Act → World → Prop} (hs : Region.noSelect ops = true) : ∀ (t : Ord) (listed : Array Bool) (a : Act) (D S : WP), Closed md ops listed → ordB M md ops t listed = true → wpOrd P M ops Q t a D S → ordG P M md ops Q t.len listed a D S
  | .nil, _, _, _, _, _, hB, h => ⟨by simpa [ordB] using hB, h⟩
  | .pure i t, listed, a, D, S, cl, hB, h => by
    simp only [ordB, Bool.and_eq_true] at hB
    obtain ⟨⟨⟨hr, hf⟩, hMB⟩, hB'⟩ := hB
    obtain ⟨o, v, ho, hy, hk⟩ := h
    have hr' : i ∈ Region.ready md ops listed := by simpa using hr
    exact ordG_first ho (Region.noSelect_spec hs) t.len listed a D S (freeB_spec ho hf) (strongB_spec hMB) cl hr' hy (ordG_of_wpOrd hs t _ _ D S (cl.set hr') hB' hk)
  | .eff i t, listed, a, D, S, cl, hB, h => by
    simp only [ordB, Bool.and_eq_true, beq_iff_eq] at hB
    obtain ⟨hr, hB'⟩ := hB
    refine ⟨by rw [hr]; simp, fun j hj => ?_⟩
    rw [hr] at hj
    simp only [List.mem_singleton] at hj
    subst hj
    exact eOp_of_eff (Q := Q) (fun a D S hk => ordG_of_wpOrd hs t _ a D S (cl.set (by rw [hr]; simp)) hB' hk) h
  | .eff2 i j t u, listed, a, D, S, cl, hB, h => by
    simp only [ordB, Bool.and_eq_true, beq_iff_eq] at hB
    obtain ⟨⟨⟨hr, hl⟩, hB1⟩, hB2⟩ := hB
    refine ⟨by rw [hr]; simp, fun k hk => ?_⟩
    rw [hr] at hk
    simp only [List.mem_cons, List.not_mem_nil, or_false] at hk
    rcases hk with rfl | rfl
    · exact eOp_of_eff (Q := Q) (fun a D S hk => ordG_of_wpOrd hs t _ a D S (cl.set (by rw [hr]; simp)) hB1 hk) h.1
    · exact eOp_of_eff (Q := Q) (fun a D S hk => by
        have hh : t.len = u.len := hl
        show ordG P M md ops Q t.len _ a D S
        rw [hh]; exact ordG_of_wpOrd hs u _ a D S (cl.set (by rw [hr]; simp)) hB2 hk) h.2
/-- The region. -/
theorem wp_region_ord {id : Nat} {Q : Exit → Act → World → Prop} {a : Act} {w : World} {l : List Oper} (t : Ord) (D S : WP) (hm : P.follows .mixedOrders = true)
    (hB : (Region.noSelect l.toArray && ordB (fun _ => false) .any l.toArray t (Array.replicate l.length false) && t.len == l.length) = true)
    (hS : S w.drew) (hSD : ∀ w, S w → D w) (h : wpOrd P (fun _ => false) l.toArray Q t a D S) : (Code.region id l.toArray true).wp P Q a w := by
  simp only [Bool.and_eq_true, beq_iff_eq] at hB
  obtain ⟨⟨hs, hB⟩, hl⟩ := hB
  refine wp_region_any hm ?_
  have := wpAny_of_ordG (Q := Q) t.len _ a D S w.drew hS hSD (ordG_of_wpOrd hs t (Array.replicate l.length false) a D S (Closed.none _) hB h)
  rw [hl] at this
  simpa using this
/-- The region; the operations that M names may turn what is read: every operation without effect is ahead of them. -/
theorem wp_region_ordS {id : Nat} {Q : Exit → Act → World → Prop} {a : Act} {w : World} {l : List Oper} (M : Nat → Bool) (t : Ord) (D S : WP) (hm : P.follows .mixedOrders = true)
    (hB : (Region.noSelect l.toArray && ordB M .any l.toArray t (Array.replicate l.length false) && t.len == l.length) = true)
    (hS : S w.drew) (hSD : ∀ w, S w → D w) (h : wpOrd P M l.toArray Q t a D S) : (Code.region id l.toArray true).wp P Q a w := by
  simp only [Bool.and_eq_true, beq_iff_eq] at hB
  obtain ⟨⟨hs, hB⟩, hl⟩ := hB
  refine wp_region_any hm ?_
  have := wpAny_of_ordG (Q := Q) t.len _ a D S w.drew hS hSD (ordG_of_wpOrd hs t (Array.replicate l.length false) a D S (Closed.none _) hB h)
  rw [hl] at this
  simpa using this
section
variable {M : Nat → Bool} {Q : Exit → Act → World → Prop} {a : Act} {D S : WP} {t u : Ord} {i j : Nat}
theorem ord_pure (o : Oper) (v : Value) (ho : ops[i]? = some o) (hw : Region.wanted o (yielded ops a.tmps) = true) (h : ∀ w, D w → (execOp a.eval o).run P w = .ok (.value v) w)
    (hk : wpOrd P M ops Q t (a.put o.dst v) D S) : wpOrd P M ops Q (.pure i t) a D S := ⟨o, v, ho, Or.inl ⟨hw, h⟩, hk⟩
theorem ord_eff (o : Oper) (ho : ops[i]? = some o) (hw : Region.wanted o (yielded ops a.tmps) = true) (h : ∀ w, S w → effUpon P (M i = true) o.dst a D (wpOrd P M ops Q t) ((execOp a.eval o).run P w)) : wpOrd P M ops Q (.eff i t) a D S :=
  ⟨o, ho, Or.inl ⟨hw, h⟩⟩
theorem ord_eff2 (h1 : wpOrd P M ops Q (.eff i t) a D S) (h2 : wpOrd P M ops Q (.eff j u) a D S) : wpOrd P M ops Q (.eff2 i j t u) a D S := ⟨h1, h2⟩
theorem ord_norm {a' : Act} (ha : a = a') (h : wpOrd P M ops Q t a' D S) : wpOrd P M ops Q t a D S := ha ▸ h
theorem ord_nil (h : ∀ w, S w → Q .normal a w) : wpOrd P M ops Q .nil a D S := h
/-- A call with an effect. -/
theorem eff_call {L : Prop} {dst : Option Tmp} {K : Act → WP → WP → Prop} {f : FuncId} {args : Array Value} {w : World} {r : Result Next} {R : Ending → World → Prop} (hr : r = .ok (.enter f args) w) (hc : Calls P f args w R)
    (hk : ∀ e w', R e w' → ∃ u, e = .returned u ∧ ∃ D' S' : WP, S' w' ∧ (∀ w, S' w → D' w) ∧ (∀ w, D' w → D w) ∧ K (a.put dst u) D' S') : effUpon P L dst a D K r := by
  subst hr; exact Calls.mono hc fun e w' h => by obtain ⟨u, h1, D', S', h2, h3, h4, h5⟩ := hk e w' h; exact ⟨u, h1, D', S', h2, h3, Or.inr h4, h5⟩
theorem eff_skip {L : Prop} {dst : Option Tmp} {K : Act → WP → WP → Prop} {w : World} {r : Result Next} (D' S' : WP) (hr : r = .ok .skip w) (h1 : S' w) (h2 : ∀ w, S' w → D' w) (h3 : ∀ w, D' w → D w) (hk : K (a.put dst undef) D' S') : effUpon P L dst a D K r := by
  subst hr; exact ⟨D', S', h1, h2, Or.inr h3, hk⟩
theorem eff_value {L : Prop} {dst : Option Tmp} {K : Act → WP → WP → Prop} {w : World} {v : Value} {r : Result Next} (D' S' : WP) (hr : r = .ok (.value v) w) (h1 : S' w) (h2 : ∀ w, S' w → D' w) (h3 : ∀ w, D' w → D w) (hk : K (a.put dst v) D' S') : effUpon P L dst a D K r := by
  subst hr; exact ⟨D', S', h1, h2, Or.inr h3, hk⟩
theorem effS_skip {L : Prop} {dst : Option Tmp} {K : Act → WP → WP → Prop} {w : World} {r : Result Next} (D' S' : WP) (hL : L) (hr : r = .ok .skip w) (h1 : S' w) (h2 : ∀ w, S' w → D' w) (hk : K (a.put dst undef) D' S') : effUpon P L dst a D K r := by
  subst hr; exact ⟨D', S', h1, h2, Or.inl hL, hk⟩
end
end Go
namespace Go.Proofs.YtnklmadmenkdoaaGreat
open Go.RowKit Go.Proofs.Num
def setAll (b : Nat) : Nat → List Value → World → World
  | _, [], w => w
  | k, v :: vs, w => setAll b (k + 1) vs (w.setCell ⟨b, k, none⟩ v)
def putAll : Nat → List Value → Array Value → Array Value
  | _, [], c => c
  | k, v :: vs, c => putAll (k + 1) vs (c.setIfInBounds k v)
theorem Sts.storeAll {W : World} {b : Nat} {t : TypeId} {l : List HProp} (hl : ∀ A ∈ l, Stable A) : ∀ (vs : List Value) (k : Nat) (c : Array Value) (w : World), Sts W (blkP b (.cells c t (0, 0)) :: l) w → Sts W (blkP b (.cells (putAll k vs c) t (0, 0)) :: l) (setAll b k vs w)
  | [], _, _, _, h => h
  | v :: vs, k, c, w, h => Sts.storeAll hl vs (k + 1) _ _ (Sts.store hl h v)
set_option maxRecDepth 100000 in
theorem post_cell1 {fn : Func} {R : Ending → World → Prop} {a : Act} {W w : World} {l : List HProp} {b : Nat} {cs : Array Value} {t0 ty : TypeId} {p : Tmp} (hS : Sts W (blkP b (.cells cs t0 (0, 0)) :: l) w)
    (hfn : fn.results = #[.cell p ty]) (hp : a.tmps.getD p undef = .pointer (some ⟨b, 0, none⟩)) (hdf : a.defers = []) (hld : (loadVar ty ⟨b, 0, none⟩).run Tryz.prog w = .ok (.agg cs) w)
    (hR : R (.returned (.agg cs)) w) : bodyPost Tryz.prog fn R .ret a w := by
  have hb : w.heap[b]? = some (.cells cs t0 (0, 0)) := by obtain ⟨F, hF⟩ := hS.head; exact hF.1
  refine bodyPost_ret (v := .agg cs) ?_ hdf hR
  have h1 : (results fn a.tmps).run Tryz.prog w = ((asAddr (a.tmps.getD p undef)).run Tryz.prog w).andThen fun a w₁ => (loadVar ty a).run Tryz.prog w₁ := by
    simp only [results, hfn]
    simp [Sem.run_bind, Result.andThen]
  rw [h1, hp]
  show ((asAddr (.pointer (some ⟨b, 0, none⟩))).run Tryz.prog w).andThen _ = _
  rw [show (asAddr (.pointer (some ⟨b, 0, none⟩))).run Tryz.prog w = .ok ⟨b, 0, none⟩ w by simp [asAddr]]
  show (loadVar ty ⟨b, 0, none⟩).run Tryz.prog w = _
  exact hld
end Go.Proofs.YtnklmadmenkdoaaGreat
namespace Go.Proofs.YtnklmadmenkdoaaGreat
open Go.RowKit Go.Proofs.Num
theorem exec_ldS {o : Oper} {a : Act} {w : World} {b j : Nat} (x : Operand) (t : TypeId) (ho : o.op = .load t x) (hx : a.eval x = .pointer (some ⟨b, j, none⟩)) {v : Value}
    (hld : (loadVar t ⟨b, j, none⟩).run Tryz.prog w = .ok v w) : (execOp a.eval o).run Tryz.prog w = .ok (.value v) w := by
  unfold execOp
  simp only [ho, hx]
  have h1 : (Instr.loadAt t (.pointer (some ⟨b, j, none⟩))).run Tryz.prog w = .ok v w := by
    simp only [Instr.loadAt, Instr.sureAddr]
    simp [Sem.run_bind, asAddr, hld, Result.andThen]
  simp [Sem.run_bind, h1, Result.andThen]
theorem wpList_ldS {ops : Array Oper} {rest : List Oper} {o : Oper} {a : Act} {Q : Exit → Act → World → Prop} {w : World} {b j : Nat} (hgd : o.guard = none) (x : Operand) (t : TypeId) (ho : o.op = .load t x) (hx : a.eval x = .pointer (some ⟨b, j, none⟩)) (v : Value)
    (hld : (loadVar t ⟨b, j, none⟩).run Tryz.prog w = .ok v w) (h : wpList Tryz.prog ops Q rest (a.put o.dst v) w) : wpList Tryz.prog ops Q (o :: rest) a w := by
  refine wpList_plain hgd fun K hK => ?_
  have hr : (execOp a.eval o).run Tryz.prog w = .ok (.value v) w := by
    unfold execOp
    simp only [ho, hx]
    have h1 : (Instr.loadAt t (.pointer (some ⟨b, j, none⟩))).run Tryz.prog w = .ok v w := by
      simp only [Instr.loadAt, Instr.sureAddr]
      simp [Sem.run_bind, asAddr, hld, Result.andThen]
    simp [Sem.run_bind, h1, Result.andThen]
  unfold Oper.wp
  rw [hr]
  exact hK _ _ h
set_option maxRecDepth 100000 in
theorem cFopW (w : World) (n lo hi : Int) (h1 : lo ≤ n) (h2 : n ≤ hi) : Calls Tryz.prog 108 #[.int .i64 n, .int .i64 lo, .int .i64 hi] w fun e w' => e = .returned (.int .i64 n) ∧ w = w' := by
  have m1 : max n lo = n := by omega
  have m2 : min n hi = n := by omega
  clear h1 h2
  go_enter Tryz.func108, Tryz.ntmps108
  go_wp2_with fail
  go_ret
  exact ⟨rfl, rfl⟩
section
variable {W w : World} {l : List HProp} (hl : ∀ B ∈ l, Stable B) (hs : Sts W l w)
include hl hs
set_option maxRecDepth 100000 in
theorem cTrkNew (T : Int) (h1 : 1 ≤ T) (h2 : T ≤ 1099511627776) : Calls Tryz.prog 40 #[.int .i64 T] w fun e w' => ∃ q, e = .returned (.pointer (some ⟨q, 0, none⟩)) ∧ Sts W (blkP q (.cells #[.bool true, .int .i64 0, .int .i64 T, .slice none 0 0] 211 (0, 0)) :: l) w' := by
  have H0 := hid (hs.alloc hl (.cells #[.bool true, .int .i64 0, .int .i64 T, .slice none 0 0] 211))
  have m1 : max T 1 = T := by omega
  have m2 : min T 1099511627776 = T := by omega
  clear hs h1 h2
  go_enter Tryz.func40, Tryz.ntmps40
  go_wp2_with fail
  go_ret
  exact ⟨_, rfl, H0.out⟩
set_option maxRecDepth 100000 in
theorem cArcNew : Calls Tryz.prog 34 #[] w fun e w' => ∃ q, e = .returned (.pointer (some ⟨q, 0, none⟩)) ∧ Sts W (blkP q (.cells #[.bool true, .slice none 0 0] 185 (0, 0)) :: l) w' := by
  have H0 := hid (hs.alloc hl (.cells #[.bool true, .slice none 0 0] 185))
  clear hs
  go_enter Tryz.func34, Tryz.ntmps34
  go_wp2_with fail
  go_ret
  exact ⟨_, rfl, H0.out⟩
set_option maxRecDepth 100000 in
theorem cUnpNew : Calls Tryz.prog 107 #[] w fun e w' => ∃ q, e = .returned (.pointer (some ⟨q, 0, none⟩)) ∧ Sts W (blkP q (.cells #[.bool true, .bool false, .bool false, .int .i64 0, .int .i64 0, .slice none 0 0] 302 (0, 0)) :: l) w' := by
  have H0 := hid (hs.alloc hl (.cells #[.bool true, .bool false, .bool false, .int .i64 0, .int .i64 0, .slice none 0 0] 302))
  clear hs
  go_enter Tryz.func107, Tryz.ntmps107
  go_wp2_with fail
  go_ret
  exact ⟨_, rfl, H0.out⟩
set_option maxRecDepth 100000 in
theorem cBitNew : Calls Tryz.prog 165 #[] w fun e w' => ∃ q, e = .returned (.pointer (some ⟨q, 0, none⟩)) ∧ Sts W (blkP q (.cells #[.bool true, .slice none 0 0, .int .i64 0] 345 (0, 0)) :: l) w' := by
  have H0 := hid (hs.alloc hl (.cells #[.bool true, .slice none 0 0, .int .i64 0] 345))
  clear hs
  go_enter Tryz.func165, Tryz.ntmps165
  go_wp2_with fail
  go_ret
  exact ⟨_, rfl, H0.out⟩
set_option maxRecDepth 100000 in
theorem cFinNew (z : Int) (h1 : 1 ≤ z) (h2 : z ≤ 1024) : Calls Tryz.prog 106 #[.int .i64 z] w fun e w' => ∃ q, e = .returned (.pointer (some ⟨q, 0, none⟩)) ∧ Sts W (blkP q (.cells #[.int .i64 z, .int .i64 0, .slice none 0 0] 234 (0, 0)) :: l) w' := by
  have H0 := hid (hs.alloc hl (.cells #[.int .i64 z, .int .i64 0, .slice none 0 0] 234))
  have d1 : decide (z < 1) = false := decide_eq_false (by omega)
  have d2 : decide (1024 < z) = false := decide_eq_false (by omega)
  clear hs h1 h2
  go_enter Tryz.func106, Tryz.ntmps106
  go_wp2_with fail
  go_ret
  exact ⟨_, rfl, H0.out⟩
set_option maxRecDepth 100000 in
set_option maxHeartbeats 2000000 in
/-- The sending end of the uplink, at arguments in their ranges. -/
theorem cFopNew (craft chan size to re : Int) (h1 : 0 ≤ craft ∧ craft ≤ 1023) (h2 : 0 ≤ chan ∧ chan ≤ 7) (h3 : 1 ≤ size ∧ size ≤ 127) (h4 : 1 ≤ to ∧ to ≤ 1099511627776) (h5 : 0 ≤ re ∧ re ≤ 255) :
    Calls Tryz.prog 41 #[.int .i64 craft, .int .i64 chan, .int .i64 size, .int .i64 to, .int .i64 re] w fun e w' => ∃ q, e = .returned (.pointer (some ⟨q, 0, none⟩)) ∧
      Sts W (blkP q (.cells #[.int .i64 size, .slice none 0 0, .int .i64 0, .int .i64 0, .int .i64 0, .bool true, .int .i64 craft, .int .i64 chan, .int .i64 to, .int .i64 re, .int .i64 1, .slice none 0 0, .int .i64 0, .int .i64 0, .int .i64 0] 216 (0, 0)) :: l) w' := by
  have H0 := hid (hs.alloc hl (.cells #[.int .i64 size, .slice none 0 0, .int .i64 0, .int .i64 0, .int .i64 0, .bool true, .int .i64 craft, .int .i64 chan, .int .i64 to, .int .i64 re, .int .i64 1, .slice none 0 0, .int .i64 0, .int .i64 0, .int .i64 0] 216))
  clear hs
  go_enter Tryz.func41, Tryz.ntmps41
  go_wp2_with (first | (go_at_call 108; refine (cFopW _ _ _ _ (by omega) (by omega)).mono ?_; rintro e w2 ⟨rfl, rfl⟩))
  go_ret
  exact ⟨_, rfl, H0.out⟩
end
end Go.Proofs.YtnklmadmenkdoaaGreat
