/- A region that draws its order, with up to three effects in any order. -/
import Derived.Test.YtfjadhkhmhnccaaOrdR
set_option linter.unusedVariables false
namespace Go
inductive OrdT where
  | nil : OrdT
  | pure : Nat → OrdT → OrdT
  | eff : Nat → OrdT → OrdT
  | eff2 : Nat → Nat → OrdT → OrdT → OrdT
  | eff3 : Nat → Nat → Nat → OrdT → OrdT → OrdT → OrdT
def OrdT.len : OrdT → Nat
  | .nil => 0
  | .pure _ t => t.len + 1
  | .eff _ t => t.len + 1
  | .eff2 _ _ t _ => t.len + 1
  | .eff3 _ _ _ t _ _ => t.len + 1
variable {P : Program} {ops : Array Oper} {md : Region.Mode}
def ordBT (M : Nat → Bool) (md : Region.Mode) (ops : Array Oper) : OrdT → Array Bool → Bool
  | .nil, listed => (Region.ready md ops listed).isEmpty
  | .pure i t, listed => (Region.ready md ops listed).contains i && freeB md ops listed i && strongB M md ops i && ordBT M md ops t (listed.setIfInBounds i true)
  | .eff i t, listed => Region.ready md ops listed == [i] && ordBT M md ops t (listed.setIfInBounds i true)
  | .eff2 i j t u, listed => Region.ready md ops listed == [i, j] && t.len == u.len && ordBT M md ops t (listed.setIfInBounds i true) && ordBT M md ops u (listed.setIfInBounds j true)
  | .eff3 i j k t u v, listed => Region.ready md ops listed == [i, j, k] && t.len == u.len && t.len == v.len && ordBT M md ops t (listed.setIfInBounds i true) && ordBT M md ops u (listed.setIfInBounds j true) && ordBT M md ops v (listed.setIfInBounds k true)
def wpOrdT (P : Program) (M : Nat → Bool) (ops : Array Oper) (Q : Exit → Act → World → Prop) : OrdT → Act → WP → WP → Prop
  | .nil, a, D, S => ∀ w, S w → Q .normal a w
  | .pure i t, a, D, S => ∃ o v, ops[i]? = some o ∧ YieldsD P ops D o v a ∧ wpOrdT P M ops Q t (a.put o.dst v) D S
  | .eff i t, a, D, S => ∃ o, ops[i]? = some o ∧ ((Region.wanted o (yielded ops a.tmps) = true ∧ ∀ w, S w → effUpon P (M i = true) o.dst a D (wpOrdT P M ops Q t) ((execOp a.eval o).run P w)) ∨
      (Region.wanted o (yielded ops a.tmps) = false ∧ wpOrdT P M ops Q t (a.put o.dst undef) D S))
  | .eff2 i j t u, a, D, S =>
    (∃ o, ops[i]? = some o ∧ ((Region.wanted o (yielded ops a.tmps) = true ∧ ∀ w, S w → effUpon P (M i = true) o.dst a D (wpOrdT P M ops Q t) ((execOp a.eval o).run P w)) ∨
      (Region.wanted o (yielded ops a.tmps) = false ∧ wpOrdT P M ops Q t (a.put o.dst undef) D S))) ∧
    (∃ o, ops[j]? = some o ∧ ((Region.wanted o (yielded ops a.tmps) = true ∧ ∀ w, S w → effUpon P (M j = true) o.dst a D (wpOrdT P M ops Q u) ((execOp a.eval o).run P w)) ∨
      (Region.wanted o (yielded ops a.tmps) = false ∧ wpOrdT P M ops Q u (a.put o.dst undef) D S)))
  | .eff3 i j k t u v, a, D, S =>
    (∃ o, ops[i]? = some o ∧ ((Region.wanted o (yielded ops a.tmps) = true ∧ ∀ w, S w → effUpon P (M i = true) o.dst a D (wpOrdT P M ops Q t) ((execOp a.eval o).run P w)) ∨
      (Region.wanted o (yielded ops a.tmps) = false ∧ wpOrdT P M ops Q t (a.put o.dst undef) D S))) ∧
    (∃ o, ops[j]? = some o ∧ ((Region.wanted o (yielded ops a.tmps) = true ∧ ∀ w, S w → effUpon P (M j = true) o.dst a D (wpOrdT P M ops Q u) ((execOp a.eval o).run P w)) ∨
      (Region.wanted o (yielded ops a.tmps) = false ∧ wpOrdT P M ops Q u (a.put o.dst undef) D S))) ∧
    (∃ o, ops[k]? = some o ∧ ((Region.wanted o (yielded ops a.tmps) = true ∧ ∀ w, S w → effUpon P (M k = true) o.dst a D (wpOrdT P M ops Q v) ((execOp a.eval o).run P w)) ∨
      (Region.wanted o (yielded ops a.tmps) = false ∧ wpOrdT P M ops Q v (a.put o.dst undef) D S)))
theorem ordG_of_wpOrdT {M : Nat → Bool} {Q : Exit → Act → World → Prop} (hs : Region.noSelect ops = true) : ∀ (t : OrdT) (listed : Array Bool) (a : Act) (D S : WP), Closed md ops listed → ordBT M md ops t listed = true → wpOrdT P M ops Q t a D S → ordG P M md ops Q t.len listed a D S
  | .nil, _, _, _, _, _, hB, h => ⟨by simpa [ordBT] using hB, h⟩
  | .pure i t, listed, a, D, S, cl, hB, h => by
    simp only [ordBT, Bool.and_eq_true] at hB
    obtain ⟨⟨⟨hr, hf⟩, hMB⟩, hB'⟩ := hB
    obtain ⟨o, v, ho, hy, hk⟩ := h
    have hr' : i ∈ Region.ready md ops listed := by simpa using hr
    exact ordG_first ho (Region.noSelect_spec hs) t.len listed a D S (freeB_spec ho hf) (strongB_spec hMB) cl hr' hy (ordG_of_wpOrdT hs t _ _ D S (cl.set hr') hB' hk)
  | .eff i t, listed, a, D, S, cl, hB, h => by
    simp only [ordBT, Bool.and_eq_true, beq_iff_eq] at hB
    obtain ⟨hr, hB'⟩ := hB
    refine ⟨by rw [hr]; simp, fun j hj => ?_⟩
    rw [hr] at hj
    simp only [List.mem_singleton] at hj
    subst hj
    exact eOp_of_eff (Q := Q) (fun a D S hk => ordG_of_wpOrdT hs t _ a D S (cl.set (by rw [hr]; simp)) hB' hk) h
  | .eff2 i j t u, listed, a, D, S, cl, hB, h => by
    simp only [ordBT, Bool.and_eq_true, beq_iff_eq] at hB
    obtain ⟨⟨⟨hr, hl⟩, hB1⟩, hB2⟩ := hB
    refine ⟨by rw [hr]; simp, fun k hk => ?_⟩
    rw [hr] at hk
    simp only [List.mem_cons, List.not_mem_nil, or_false] at hk
    rcases hk with rfl | rfl
    · exact eOp_of_eff (Q := Q) (fun a D S hk => ordG_of_wpOrdT hs t _ a D S (cl.set (by rw [hr]; simp)) hB1 hk) h.1
    · exact eOp_of_eff (Q := Q) (fun a D S hk => by
        have hh : t.len = u.len := hl
        show ordG P M md ops Q t.len _ a D S
        rw [hh]; exact ordG_of_wpOrdT hs u _ a D S (cl.set (by rw [hr]; simp)) hB2 hk) h.2
  | .eff3 i j k t u v, listed, a, D, S, cl, hB, h => by
    simp only [ordBT, Bool.and_eq_true, beq_iff_eq] at hB
    obtain ⟨⟨⟨⟨⟨hr, hl⟩, hl2⟩, hB1⟩, hB2⟩, hB3⟩ := hB
    refine ⟨by rw [hr]; simp, fun m hk => ?_⟩
    rw [hr] at hk
    simp only [List.mem_cons, List.not_mem_nil, or_false] at hk
    rcases hk with rfl | rfl | rfl
    · exact eOp_of_eff (Q := Q) (fun a D S hk => ordG_of_wpOrdT hs t _ a D S (cl.set (by rw [hr]; simp)) hB1 hk) h.1
    · exact eOp_of_eff (Q := Q) (fun a D S hk => by
        have hh : t.len = u.len := hl
        show ordG P M md ops Q t.len _ a D S
        rw [hh]; exact ordG_of_wpOrdT hs u _ a D S (cl.set (by rw [hr]; simp)) hB2 hk) h.2.1
    · exact eOp_of_eff (Q := Q) (fun a D S hk => by
        have hh : t.len = v.len := hl2
        show ordG P M md ops Q t.len _ a D S
        rw [hh]; exact ordG_of_wpOrdT hs v _ a D S (cl.set (by rw [hr]; simp)) hB3 hk) h.2.2
/-- The region. -/
theorem wp_region_ordT {id : Nat} {Q : Exit → Act → World → Prop} {a : Act} {w : World} {l : List Oper} (t : OrdT) (D S : WP) (hm : P.follows .mixedOrders = true)
    (hB : (Region.noSelect l.toArray && ordBT (fun _ => false) .any l.toArray t (Array.replicate l.length false) && t.len == l.length) = true)
    (hS : S w.drew) (hSD : ∀ w, S w → D w) (h : wpOrdT P (fun _ => false) l.toArray Q t a D S) : (Code.region id l.toArray true).wp P Q a w := by
  simp only [Bool.and_eq_true, beq_iff_eq] at hB
  obtain ⟨⟨hs, hB⟩, hl⟩ := hB
  refine wp_region_any hm ?_
  have := wpAny_of_ordG (Q := Q) t.len _ a D S w.drew hS hSD (ordG_of_wpOrdT hs t (Array.replicate l.length false) a D S (Closed.none _) hB h)
  rw [hl] at this
  simpa using this
section
variable {M : Nat → Bool} {Q : Exit → Act → World → Prop} {a : Act} {D S : WP} {t u v : OrdT} {i j k : Nat}
theorem ordT_pure (o : Oper) (x : Value) (ho : ops[i]? = some o) (hw : Region.wanted o (yielded ops a.tmps) = true) (h : ∀ w, D w → (execOp a.eval o).run P w = .ok (.value x) w)
    (hk : wpOrdT P M ops Q t (a.put o.dst x) D S) : wpOrdT P M ops Q (.pure i t) a D S := ⟨o, x, ho, Or.inl ⟨hw, h⟩, hk⟩
theorem ordT_skip (o : Oper) (ho : ops[i]? = some o) (hw : Region.wanted o (yielded ops a.tmps) = false) (hk : wpOrdT P M ops Q t (a.put o.dst undef) D S) : wpOrdT P M ops Q (.pure i t) a D S :=
  ⟨o, undef, ho, Or.inr ⟨hw, rfl⟩, hk⟩
theorem ordT_eff (o : Oper) (ho : ops[i]? = some o) (hw : Region.wanted o (yielded ops a.tmps) = true) (h : ∀ w, S w → effUpon P (M i = true) o.dst a D (wpOrdT P M ops Q t) ((execOp a.eval o).run P w)) : wpOrdT P M ops Q (.eff i t) a D S :=
  ⟨o, ho, Or.inl ⟨hw, h⟩⟩
theorem ordT_eff2 (h1 : wpOrdT P M ops Q (.eff i t) a D S) (h2 : wpOrdT P M ops Q (.eff j u) a D S) : wpOrdT P M ops Q (.eff2 i j t u) a D S := ⟨h1, h2⟩
theorem ordT_eskip (o : Oper) (ho : ops[i]? = some o) (hw : Region.wanted o (yielded ops a.tmps) = false) (hk : wpOrdT P M ops Q t (a.put o.dst undef) D S) : wpOrdT P M ops Q (.eff i t) a D S :=
  ⟨o, ho, Or.inr ⟨hw, hk⟩⟩
theorem ordT_norm {a' : Act} (ha : a = a') (h : wpOrdT P M ops Q t a' D S) : wpOrdT P M ops Q t a D S := ha ▸ h
theorem ordT_nil (h : ∀ w, S w → Q .normal a w) : wpOrdT P M ops Q .nil a D S := h
theorem ordT_eff3 (h1 : wpOrdT P M ops Q (.eff i t) a D S) (h2 : wpOrdT P M ops Q (.eff j u) a D S) (h3 : wpOrdT P M ops Q (.eff k v) a D S) : wpOrdT P M ops Q (.eff3 i j k t u v) a D S := ⟨h1, h2, h3⟩
end
end Go
