/- An evaluator of the model's code, fourth part: the laws of single operations. -/
import Derived.Test.YtnklmadmenkdoaaGreatEvC
set_option linter.unusedVariables false
set_option linter.unusedSimpArgs false
namespace Go.Ev
variable {D : List Deferred}
variable {P : Program} {pr : Prims} {ih : Rn} {e : Env} {t : T V} {h : H} {s : Nat} {w : World} {a : Act} {r : RO} {k : K} {o : Oper}
theorem addr_add (b x n : Nat) : (⟨b, x, none⟩ : Addr).add n = ⟨b, x + n, none⟩ := by unfold Addr.add; split <;> simp_all
theorem bif_ok {c : Bool} {x y r : RO} (h : (bif c then x else y) = r) (hy : ¬ y.good) (hr : r.good) : c = true ∧ x = r := by
  cases c with
  | true => exact ⟨rfl, h⟩
  | false => simp only [cond_false] at h; subst h; exact absurd hr hy
theorem info_of_underlying {ty : TypeId} {d : TypeDesc} (h : P.underlying ty = some d) : ∃ i, P.info? ty = some i := by
  unfold Program.underlying at h
  cases hi : P.info? ty with
  | none => simp [hi] at h
  | some i => exact ⟨i, rfl⟩
theorem run_typeInfo' {ty : TypeId} {i : TypeInfo} (h : P.info? ty = some i) : (typeInfo ty).run P w = .ok i w := by simp [typeInfo, h]
theorem run_sizeOf' {ty : TypeId} {i : TypeInfo} (h : P.info? ty = some i) : (sizeOf ty).run P w = .ok (P.cellsOf ty) w := by simp [sizeOf, run_typeInfo' h, Program.cellsOf, h, Result.andThen]
theorem run_under {ty : TypeId} {d : TypeDesc} (h : P.underlying ty = some d) : (underlying ty).run P w = .ok d w := by simp [underlying, h]
def dAgg : TypeDesc → Bool | .struct _ | .array _ _ => true | _ => false
theorem run_isAgg {ty : TypeId} {d : TypeDesc} (h : P.underlying ty = some d) : (isAgg ty).run P w = .ok (dAgg d) w := by
  cases d <;> simp [isAgg, run_under h, Result.andThen, dAgg]
theorem ifAgg_ok {ty : TypeId} {yes no : RO} (h : ifAgg P ty yes no = r) (hr : r.good) : ∃ d, P.underlying ty = some d ∧ ((dAgg d = true ∧ yes = r) ∨ (dAgg d = false ∧ no = r)) := by
  unfold ifAgg at h
  split at h
  · rename_i hd; exact ⟨_, hd, .inl ⟨rfl, h⟩⟩
  · rename_i hd; exact ⟨_, hd, .inl ⟨rfl, h⟩⟩
  · rename_i d h1 h2 hd
    refine ⟨d, hd, .inr ⟨?_, h⟩⟩
    cases d <;> first | rfl | exact (h1 _ rfl).elim | exact (h2 _ _ rfl).elim
  · subst h; cases hr
/-- A block of cells, as it lies. -/
theorem cells_at (hs : Sim e h w) {b : Nat} {t' : T V} {m : Nat} (hb : h.get .gone b = .cells t' m) {x : Loc} (hx : e b = some x) :
    live h b ∧ ∃ c el fr, w.heap[x.n]? = some (.cells c el fr) ∧ c.size = x.sz ∧ x.sh + m ≤ x.sz ∧ (∀ i, i < m → ∃ y, c[x.sh + i]? = some y ∧ VR e (t'.get un i) y) ∧ (∀ i, i < m → t'.has i = true) ∧ (fr.1 = fr.2 ∨ x.sz ≤ fr.1) := by
  have hl : live h b := live_of_cells hb (by simp)
  obtain ⟨x', o', h1, h2, h3⟩ := hs.blk b hl
  rw [hx] at h1; injection h1 with h1; subst h1
  rw [hb] at h3
  cases h3 with
  | cells g1 g2 g3 g4 g5 => exact ⟨hl, _, _, _, h2, g1, g2, g3, g4, g5⟩
theorem cell_at {n i : Nat} {c : Array Value} {el : TypeId} {fr : Nat × Nat} (hw : w.heap[n]? = some (.cells c el fr)) : w.cell? ⟨n, i, none⟩ = c[i]? := by
  simp [World.cell?, hw]
theorem rdCells_get (t : T V) : ∀ (n o i : Nat), i < n → (rdCells t n o)[i]? = some (t.get un (o + i))
  | 0, o, i, h => by omega
  | n + 1, o, 0, h => rfl
  | n + 1, o, i + 1, h => by
    show (rdCells t n (o + 1))[i]? = _
    rw [rdCells_get t n (o + 1) i (by omega)]
    congr 2; omega
theorem rdCells_len (t : T V) : ∀ (n o : Nat), (rdCells t n o).length = n
  | 0, o => rfl
  | n + 1, o => by show (rdCells t n (o + 1)).length + 1 = _; rw [rdCells_len t n]
/-- The cells that are read. -/
theorem rd_ok {x : Loc} {t' : T V} {m o z : Nat} {c : Array Value} (hc : ∀ i, i < m → ∃ y, c[x.sh + i]? = some y ∧ VR e (t'.get un i) y) (hz : o + z ≤ m) :
    ∃ xs : List Value, xs.length = z ∧ VRs e (rdCells t' z o) xs ∧ ∀ j v, xs[j]? = some v → c[x.sh + o + j]? = some v := by
  refine ⟨(List.range z).map (fun j => (c[x.sh + o + j]?).getD undef), by simp, VRs.ofFn (by simp [rdCells_len]) (fun i hi => ?_), fun j v hv => ?_⟩
  · rw [rdCells_len] at hi
    obtain ⟨y, h1, h2⟩ := hc (o + i) (by omega)
    refine ⟨_, _, rdCells_get t' z o i hi, by simp [hi]; rfl, ?_⟩
    rw [show x.sh + o + i = x.sh + (o + i) by omega, h1]; exact h2
  · simp only [List.getElem?_map] at hv
    by_cases hj : j < z
    · rw [List.getElem?_range hj] at hv
      obtain ⟨y, h1, h2⟩ := hc (o + j) (by omega)
      simp only [Option.map_some] at hv
      rw [show x.sh + o + j = x.sh + (o + j) by omega] at hv ⊢
      simpa [h1] using hv
    · rw [List.getElem?_eq_none (by simpa using hj)] at hv; cases hv
theorem loadV_ok {ty : TypeId} {b o : Nat} {f : V → RO} (hk : loadV P ty h b o f = r) (hr : r.good) (hs : Sim e h w) {x : Loc} (hx : e b = some x) :
    ∃ v, f v = r ∧ ∃ y, VR e v y ∧ (loadVar ty ⟨x.n, x.sh + o, none⟩).run P w = .ok y w := by
  unfold loadV at hk
  split at hk
  · rename_i t' m hb
    obtain ⟨hl, c, el, fr, hw, h1, h2, h3, h4, h5⟩ := cells_at hs hb hx
    obtain ⟨d, hd, ⟨hd2, hk⟩ | ⟨hd2, hk⟩⟩ := ifAgg_ok hk hr
    · obtain ⟨hle, hk⟩ := bif_ok hk (by simp [RO.good]) hr
      have hle' : o + P.cellsOf ty ≤ m := Nat.le_of_ble_eq_true hle
      obtain ⟨xs, hxl, hxs, hget⟩ := rd_ok h3 hle'
      obtain ⟨i, hi⟩ := info_of_underlying hd
      refine ⟨_, hk, .agg ⟨xs⟩, .agg hxs, ?_⟩
      have hlc := run_loadCells_list (P := P) w ⟨x.n, x.sh + o, none⟩ xs (fun j v hv => by rw [addr_add, cell_at hw]; exact hget j v hv)
      rw [hxl] at hlc
      simp [loadVar, run_isAgg hd, hd2, Result.andThen, run_sizeOf' hi, hlc]
    · obtain ⟨hle, hk⟩ := bif_ok hk (by simp [RO.good]) hr
      obtain ⟨y, g1, g2⟩ := h3 o (Nat.le_of_ble_eq_true hle)
      refine ⟨_, hk, y, g2, ?_⟩
      have hc : w.cell? ⟨x.n, x.sh + o, none⟩ = some y := by rw [cell_at hw]; exact g1
      simp [loadVar, run_isAgg hd, hd2, Result.andThen, load, Sem.run, hc]
  · subst hk; cases hr
/-- A list of cells written. -/
def putArr (c : Array Value) (o : Nat) : List Value → Array Value
  | [] => c
  | v :: l => putArr (c.setIfInBounds o v) (o + 1) l
theorem putArr_size : ∀ (l : List Value) (c : Array Value) (o : Nat), (putArr c o l).size = c.size
  | [], c, o => rfl
  | v :: l, c, o => by rw [putArr, putArr_size l]; simp
theorem putArr_get : ∀ (l : List Value) (c : Array Value) (o i : Nat), o + l.length ≤ c.size → (putArr c o l)[i]? = if o ≤ i ∧ i < o + l.length then l[i - o]? else c[i]?
  | [], c, o, i, h => by rw [putArr, if_neg (by simp only [List.length_nil]; omega)]
  | v :: l, c, o, i, h => by
    simp only [List.length_cons] at h
    rw [putArr, putArr_get l _ (o + 1) i (by simp; omega)]
    simp only [List.length_cons]
    by_cases h1 : i = o
    · subst h1
      rw [if_neg (by omega), if_pos (by omega)]
      simp [show i < c.size by omega]
    · by_cases h2 : o + 1 ≤ i ∧ i < o + 1 + l.length
      · rw [if_pos h2, if_pos (by omega)]
        rw [show i - o = (i - (o + 1)) + 1 by omega]; simp
      · rw [if_neg h2, if_neg (by omega), Array.getElem?_setIfInBounds_ne (Ne.symm h1)]
theorem run_storeCells {n : Nat} {el : TypeId} {fr : Nat × Nat} {x : Nat} : ∀ (l : List Value) (i : Nat) (c : Array Value) (w : World), w.heap[n]? = some (.cells c el fr) → x + i + l.length ≤ c.size →
    (fr.1 = fr.2 ∨ c.size ≤ fr.1) → (∀ v ∈ l, v.oneCell' = true) →
    (storeCells ⟨n, x, none⟩ l i).run P w = .ok () { w with heap := w.heap.setIfInBounds n (.cells (putArr c (x + i) l) el fr) }
  | [], i, c, w, hw, hle, hf, h1 => by
    have : w.heap.setIfInBounds n (.cells (putArr c (x + i) []) el fr) = w.heap := by
      apply Array.ext_getElem?
      intro j
      by_cases hj : j = n
      · subst hj; rw [hw]; simp [putArr, (Array.getElem?_eq_some_iff.1 hw).1]
      · rw [Array.getElem?_setIfInBounds_ne (Ne.symm hj)]
    rw [this]; rfl
  | v :: l, i, c, w, hw, hle, hf, h1 => by
    simp only [List.length_cons] at hle
    have hlt := (Array.getElem?_eq_some_iff.1 hw).1
    have hcell : w.cell? ⟨n, x + i, none⟩ = c[x + i]? := cell_at hw
    have hsome : c[x + i]? = some c[x + i] := by simp [show x + i < c.size by omega]
    rw [hsome] at hcell
    have hfr : w.frozen? ⟨n, x + i, none⟩ = false := by
      have := fr_free hf (x + i) (by omega)
      simp only [World.frozen?, hw]
      simpa using this
    have hset : w.setCell ⟨n, x + i, none⟩ v = { w with heap := w.heap.setIfInBounds n (.cells (c.setIfInBounds (x + i) v) el fr) } := by
      unfold World.setCell
      congr 1
      apply Array.ext_getElem?
      intro j
      by_cases hj : j = n
      · subst hj
        rw [Array.getElem?_modify, if_pos rfl, hw]
        simp [hlt]
      · rw [Array.getElem?_setIfInBounds_ne (Ne.symm hj), Array.getElem?_modify, if_neg (Ne.symm hj)]
    have ih := run_storeCells (n := n) (el := el) (fr := fr) (x := x) l (i + 1) (c.setIfInBounds (x + i) v) { w with heap := w.heap.setIfInBounds n (.cells (c.setIfInBounds (x + i) v) el fr) } (by simp [hlt]) (by simp; omega) (by simpa using hf) (fun u hu => h1 u (by simp [hu]))
    have hst : (store (⟨n, x + i, none⟩ : Addr) v).run P w = .ok () (w.setCell ⟨n, x + i, none⟩ v) := by
      have hv := h1 v (by simp)
      cases v <;> first | (simp [Value.oneCell'] at hv; done) | simp [store, Sem.run, hcell, hfr]
    rw [storeCells, addr_add, Sem.run_bind, hst]
    simp only [Result.andThen, hset]
    rw [ih]
    simp [putArr, Nat.add_assoc]
end Go.Ev
