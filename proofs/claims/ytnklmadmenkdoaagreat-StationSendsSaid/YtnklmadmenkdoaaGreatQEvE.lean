/- An evaluator of the model's code, fourth part: the laws of single operations. An evaluator of the model's code, fifth part: the laws of single operations upon memory and values. -/
import Derived.Test.YtnklmadmenkdoaaGreatQEvC
set_option linter.unusedVariables false
set_option linter.unusedSimpArgs false
namespace Go.Ev
variable {D : List Deferred}
variable {P : Program} {pr : Prims} {ih : Rn} {e : Env} {t : T V} {h : H} {s : Nat} {w : World} {a : Act} {r : RO} {k : K} {o : Oper}
theorem addr_add (b x n : Nat) : (⟨b, x, none⟩ : Addr).add n = ⟨b, x + n, none⟩ := by unfold Addr.add; split <;> simp_all
theorem bif_ok {c : Bool} {x y r : RO} (h : (bif c then x else y) = r) (hy : ¬ y.good) (hr : r.good) : c = true ∧ x = r := by
  cases c with
  | true => exact ⟨rfl, h⟩
  | false => simp only [cond_false] at h; subst h; exact absurd hr hy
theorem info_of_underlying {ty : TypeId} {d : TypeDesc} (h : P.underlying ty = some d) : ∃ i, P.info? ty = some i := by
  unfold Program.underlying at h
  cases hi : P.info? ty with
  | none => simp [hi] at h
  | some i => exact ⟨i, rfl⟩
theorem run_typeInfo' {ty : TypeId} {i : TypeInfo} (h : P.info? ty = some i) : (typeInfo ty).run P w = .ok i w := by simp [typeInfo, h]
theorem run_sizeOf' {ty : TypeId} {i : TypeInfo} (h : P.info? ty = some i) : (sizeOf ty).run P w = .ok (P.cellsOf ty) w := by simp [sizeOf, run_typeInfo' h, Program.cellsOf, h, Result.andThen]
theorem run_under {ty : TypeId} {d : TypeDesc} (h : P.underlying ty = some d) : (underlying ty).run P w = .ok d w := by simp [underlying, h]
def dAgg : TypeDesc → Bool | .struct _ | .array _ _ => true | _ => false
theorem run_isAgg {ty : TypeId} {d : TypeDesc} (h : P.underlying ty = some d) : (isAgg ty).run P w = .ok (dAgg d) w := by
  cases d <;> simp [isAgg, run_under h, Result.andThen, dAgg]
theorem ifAgg_ok {ty : TypeId} {yes no : RO} (h : ifAgg P ty yes no = r) (hr : r.good) : ∃ d, P.underlying ty = some d ∧ ((dAgg d = true ∧ yes = r) ∨ (dAgg d = false ∧ no = r)) := by
  unfold ifAgg at h
  split at h
  · rename_i hd; exact ⟨_, hd, .inl ⟨rfl, h⟩⟩
  · rename_i hd; exact ⟨_, hd, .inl ⟨rfl, h⟩⟩
  · rename_i d h1 h2 hd
    refine ⟨d, hd, .inr ⟨?_, h⟩⟩
    cases d <;> first | rfl | exact (h1 _ rfl).elim | exact (h2 _ _ rfl).elim
  · subst h; cases hr
/-- A block of cells, as it lies. -/
theorem cells_at (hs : Sim e h w) {b : Nat} {t' : T V} {m : Nat} (hb : h.get .gone b = .cells t' m) {x : Loc} (hx : e b = some x) :
    live h b ∧ ∃ c el fr, w.heap[x.n]? = some (.cells c el fr) ∧ c.size = x.sz ∧ x.sh + m ≤ x.sz ∧ (∀ i, i < m → ∃ y, c[x.sh + i]? = some y ∧ VR e (t'.get un i) y) ∧ (∀ i, i < m → t'.has i = true) ∧ (fr.1 = fr.2 ∨ x.sz ≤ fr.1) := by
  have hl : live h b := live_of_cells hb (by simp)
  obtain ⟨x', o', h1, h2, h3⟩ := hs.blk b hl
  rw [hx] at h1; injection h1 with h1; subst h1
  rw [hb] at h3
  cases h3 with
  | cells g1 g2 g3 g4 g5 => exact ⟨hl, _, _, _, h2, g1, g2, g3, g4, g5⟩
theorem cell_at {n i : Nat} {c : Array Value} {el : TypeId} {fr : Nat × Nat} (hw : w.heap[n]? = some (.cells c el fr)) : w.cell? ⟨n, i, none⟩ = c[i]? := by
  simp [World.cell?, hw]
theorem rdCells_get (t : T V) : ∀ (n o i : Nat), i < n → (rdCells t n o)[i]? = some (t.get un (o + i))
  | 0, o, i, h => by omega
  | n + 1, o, 0, h => rfl
  | n + 1, o, i + 1, h => by
    show (rdCells t n (o + 1))[i]? = _
    rw [rdCells_get t n (o + 1) i (by omega)]
    congr 2; omega
theorem rdCells_len (t : T V) : ∀ (n o : Nat), (rdCells t n o).length = n
  | 0, o => rfl
  | n + 1, o => by show (rdCells t n (o + 1)).length + 1 = _; rw [rdCells_len t n]
/-- The cells that are read. -/
theorem rd_ok {x : Loc} {t' : T V} {m o z : Nat} {c : Array Value} (hc : ∀ i, i < m → ∃ y, c[x.sh + i]? = some y ∧ VR e (t'.get un i) y) (hz : o + z ≤ m) :
    ∃ xs : List Value, xs.length = z ∧ VRs e (rdCells t' z o) xs ∧ ∀ j v, xs[j]? = some v → c[x.sh + o + j]? = some v := by
  refine ⟨(List.range z).map (fun j => (c[x.sh + o + j]?).getD undef), by simp, VRs.ofFn (by simp [rdCells_len]) (fun i hi => ?_), fun j v hv => ?_⟩
  · rw [rdCells_len] at hi
    obtain ⟨y, h1, h2⟩ := hc (o + i) (by omega)
    refine ⟨_, _, rdCells_get t' z o i hi, by simp [hi]; rfl, ?_⟩
    rw [show x.sh + o + i = x.sh + (o + i) by omega, h1]; exact h2
  · simp only [List.getElem?_map] at hv
    by_cases hj : j < z
    · rw [List.getElem?_range hj] at hv
      obtain ⟨y, h1, h2⟩ := hc (o + j) (by omega)
      simp only [Option.map_some] at hv
      rw [show x.sh + o + j = x.sh + (o + j) by omega] at hv ⊢
      simpa [h1] using hv
    · rw [List.getElem?_eq_none (by simpa using hj)] at hv; cases hv
theorem loadV_ok {ty : TypeId} {b o : Nat} {f : V → RO} (hk : loadV P ty h b o f = r) (hr : r.good) (hs : Sim e h w) {x : Loc} (hx : e b = some x) :
    ∃ v, f v = r ∧ ∃ y, VR e v y ∧ (loadVar ty ⟨x.n, x.sh + o, none⟩).run P w = .ok y w := by
  unfold loadV at hk
  split at hk
  · rename_i t' m hb
    obtain ⟨hl, c, el, fr, hw, h1, h2, h3, h4, h5⟩ := cells_at hs hb hx
    obtain ⟨d, hd, ⟨hd2, hk⟩ | ⟨hd2, hk⟩⟩ := ifAgg_ok hk hr
    · obtain ⟨hle, hk⟩ := bif_ok hk (by simp [RO.good]) hr
      have hle' : o + P.cellsOf ty ≤ m := Nat.le_of_ble_eq_true hle
      obtain ⟨xs, hxl, hxs, hget⟩ := rd_ok h3 hle'
      obtain ⟨i, hi⟩ := info_of_underlying hd
      refine ⟨_, hk, .agg ⟨xs⟩, .agg hxs, ?_⟩
      have hlc := run_loadCells_list (P := P) w ⟨x.n, x.sh + o, none⟩ xs (fun j v hv => by rw [addr_add, cell_at hw]; exact hget j v hv)
      rw [hxl] at hlc
      simp [loadVar, run_isAgg hd, hd2, Result.andThen, run_sizeOf' hi, hlc]
    · obtain ⟨hle, hk⟩ := bif_ok hk (by simp [RO.good]) hr
      obtain ⟨y, g1, g2⟩ := h3 o (Nat.le_of_ble_eq_true hle)
      refine ⟨_, hk, y, g2, ?_⟩
      have hc : w.cell? ⟨x.n, x.sh + o, none⟩ = some y := by rw [cell_at hw]; exact g1
      simp [loadVar, run_isAgg hd, hd2, Result.andThen, load, Sem.run, hc]
  · subst hk; cases hr
/-- A cell that was there before. -/
theorem ext_at (hs : Sim e h w) {j o n off m c : Nat} (hx : e.base.x j = some (some ⟨n, off, none⟩, m, c)) (ho : o < m) :
    ∃ cs el fr, w.heap[n]? = some (.cells cs el fr) ∧ cs[off + o]? = some (.int .u8 (e.base.ρ (1000 * j + o))) ∧ IntKind.wrap .u8 (e.base.ρ (1000 * j + o)) = e.base.ρ (1000 * j + o) := by
  obtain ⟨n', o', cs, el, fr, h1, h2, h3, h4, h5⟩ := e.base.hx j _ _ _ hx o ho
  injection h1 with h1
  injection h1 with h1 h1'
  subst h1 h1'
  exact ⟨cs, el, fr, by rw [hs.old n h2]; exact h3, h4, h5⟩
theorem xcells_len (j : Nat) : ∀ (l o : Nat), (xcells j o l).length = l
  | 0, o => rfl
  | l + 1, o => by show (xcells j (o + 1) l).length + 1 = _; rw [xcells_len j l]
theorem xcells_get (j : Nat) : ∀ (l o i : Nat), i < l → (xcells j o l)[i]? = some (.sx .u8 (.sym (1000 * j + (o + i))))
  | 0, o, i, h => by omega
  | l + 1, o, 0, h => rfl
  | l + 1, o, i + 1, h => by
    show (xcells j (o + 1) l)[i]? = _
    rw [xcells_get j l (o + 1) i (by omega)]
    congr 4; omega
/-- The bytes of a slice that was there before, as they lie. -/
theorem ext_rd (hs : Sim e h w) {j o l n off m c : Nat} (hx : e.base.x j = some (some ⟨n, off, none⟩, m, c)) (ho : o + l ≤ m) :
    ∃ xs : List Value, xs.length = l ∧ VRs e (xcells j o l) xs ∧ ∀ i v, xs[i]? = some v → w.cell? ⟨n, off + o + i, none⟩ = some v := by
  refine ⟨(List.range l).map (fun i => Value.int .u8 (e.base.ρ (1000 * j + (o + i)))), by simp, VRs.ofFn (by simp [xcells_len]) (fun i hi => ?_), fun i v hv => ?_⟩
  · rw [xcells_len] at hi
    obtain ⟨cs, el, fr, h1, h2, h3⟩ := ext_at hs hx (o := o + i) (by omega)
    refine ⟨_, _, xcells_get j l o i hi, by simp [hi]; rfl, .sx rfl ?_⟩
    exact h3
  · have hi : i < l := by
      rcases Nat.lt_or_ge i l with h | h
      · exact h
      · rw [List.getElem?_eq_none (by simpa using h)] at hv; cases hv
    simp only [List.getElem?_map, List.getElem?_range hi, Option.map_some, Option.some.injEq] at hv
    subst hv
    obtain ⟨cs, el, fr, h1, h2, h3⟩ := ext_at hs hx (o := o + i) (by omega)
    rw [cell_at h1, Nat.add_assoc]; exact h2
/-- A list of cells written. -/
def putArr (c : Array Value) (o : Nat) : List Value → Array Value
  | [] => c
  | v :: l => putArr (c.setIfInBounds o v) (o + 1) l
theorem putArr_size : ∀ (l : List Value) (c : Array Value) (o : Nat), (putArr c o l).size = c.size
  | [], c, o => rfl
  | v :: l, c, o => by rw [putArr, putArr_size l]; simp
theorem putArr_get : ∀ (l : List Value) (c : Array Value) (o i : Nat), o + l.length ≤ c.size → (putArr c o l)[i]? = if o ≤ i ∧ i < o + l.length then l[i - o]? else c[i]?
  | [], c, o, i, h => by rw [putArr, if_neg (by simp only [List.length_nil]; omega)]
  | v :: l, c, o, i, h => by
    simp only [List.length_cons] at h
    rw [putArr, putArr_get l _ (o + 1) i (by simp; omega)]
    simp only [List.length_cons]
    by_cases h1 : i = o
    · subst h1
      rw [if_neg (by omega), if_pos (by omega)]
      simp [show i < c.size by omega]
    · by_cases h2 : o + 1 ≤ i ∧ i < o + 1 + l.length
      · rw [if_pos h2, if_pos (by omega)]
        rw [show i - o = (i - (o + 1)) + 1 by omega]; simp
      · rw [if_neg h2, if_neg (by omega), Array.getElem?_setIfInBounds_ne (Ne.symm h1)]
theorem run_storeCells {n : Nat} {el : TypeId} {fr : Nat × Nat} {x : Nat} : ∀ (l : List Value) (i : Nat) (c : Array Value) (w : World), w.heap[n]? = some (.cells c el fr) → x + i + l.length ≤ c.size →
    (fr.1 = fr.2 ∨ c.size ≤ fr.1) → (∀ v ∈ l, v.oneCell' = true) →
    (storeCells ⟨n, x, none⟩ l i).run P w = .ok () { w with heap := w.heap.setIfInBounds n (.cells (putArr c (x + i) l) el fr) }
  | [], i, c, w, hw, hle, hf, h1 => by
    have : w.heap.setIfInBounds n (.cells (putArr c (x + i) []) el fr) = w.heap := by
      apply Array.ext_getElem?
      intro j
      by_cases hj : j = n
      · subst hj; rw [hw]; simp [putArr, (Array.getElem?_eq_some_iff.1 hw).1]
      · rw [Array.getElem?_setIfInBounds_ne (Ne.symm hj)]
    rw [this]; rfl
  | v :: l, i, c, w, hw, hle, hf, h1 => by
    simp only [List.length_cons] at hle
    have hlt := (Array.getElem?_eq_some_iff.1 hw).1
    have hcell : w.cell? ⟨n, x + i, none⟩ = c[x + i]? := cell_at hw
    have hsome : c[x + i]? = some c[x + i] := by simp [show x + i < c.size by omega]
    rw [hsome] at hcell
    have hfr : w.frozen? ⟨n, x + i, none⟩ = false := by
      have := fr_free hf (x + i) (by omega)
      simp only [World.frozen?, hw]
      simpa using this
    have hset : w.setCell ⟨n, x + i, none⟩ v = { w with heap := w.heap.setIfInBounds n (.cells (c.setIfInBounds (x + i) v) el fr) } := by
      unfold World.setCell
      congr 1
      apply Array.ext_getElem?
      intro j
      by_cases hj : j = n
      · subst hj
        rw [Array.getElem?_modify, if_pos rfl, hw]
        simp [hlt]
      · rw [Array.getElem?_setIfInBounds_ne (Ne.symm hj), Array.getElem?_modify, if_neg (Ne.symm hj)]
    have ih := run_storeCells (n := n) (el := el) (fr := fr) (x := x) l (i + 1) (c.setIfInBounds (x + i) v) { w with heap := w.heap.setIfInBounds n (.cells (c.setIfInBounds (x + i) v) el fr) } (by simp [hlt]) (by simp; omega) (by simpa using hf) (fun u hu => h1 u (by simp [hu]))
    have hst : (store (⟨n, x + i, none⟩ : Addr) v).run P w = .ok () (w.setCell ⟨n, x + i, none⟩ v) := by
      have hv := h1 v (by simp)
      cases v <;> first | (simp [Value.oneCell'] at hv; done) | simp [store, Sem.run, hcell, hfr]
    rw [storeCells, addr_add, Sem.run_bind, hst]
    simp only [Result.andThen, hset]
    rw [ih]
    simp [putArr, Nat.add_assoc]
end Go.Ev
namespace Go.Ev
variable {D : List Deferred}
variable {P : Program} {pr : Prims} {ih : Rn} {e : Env} {t : T V} {h : H} {s : Nat} {w : World} {a : Act} {r : RO} {k : K} {o : Oper}
theorem oneAll_ok : ∀ {l : List V}, oneAll l = true → ∀ v ∈ l, v.one = true
  | [], _, v, hv => by cases hv
  | x :: l, h, v, hv => by
    change (bif x.one then oneAll l else false) = true at h
    cases hx : x.one with
    | false => rw [hx] at h; cases h
    | true =>
      rw [hx] at h
      rcases List.mem_cons.1 hv with rfl | hv
      · exact hx
      · exact oneAll_ok h v hv
theorem VRs.one : ∀ {l : List V} {xs : List Value}, VRs e l xs → oneAll l = true → ∀ x ∈ xs, x.oneCell' = true
  | _, _, .nil, _, x, hx => by cases hx
  | _, _, .cons (v := v) hv t, h, x, hx => by
    change (bif v.one then oneAll _ else false) = true at h
    cases h0 : v.one with
    | false => rw [h0] at h; cases h
    | true =>
      rw [h0] at h
      rcases List.mem_cons.1 hx with rfl | hx
      · exact hv.one h0
      · exact VRs.one t h x hx
theorem storeV_ok {b o : Nat} {cs : List V} {f : H → RO} (hk : storeV h b o cs f = r) (hr : r.good) (hs : Sim e h w) (hf : Free e s) {x : Loc} (hx : e b = some x) {xs : List Value} (hxs : VRs e cs xs) :
    ∃ h' w', f h' = r ∧ (storeCells ⟨x.n, x.sh + o, none⟩ xs).run P w = .ok () w' ∧ Post e s h w e s h' w' := by
  unfold storeV at hk
  split at hk
  · rename_i t' m hb
    obtain ⟨hl, c, el, fr, hw, h1, h2, h3, h4, h5⟩ := cells_at hs hb hx
    obtain ⟨hle, hk⟩ := bif_ok hk (by simp [RO.good]) hr
    obtain ⟨hone, hk⟩ := bif_ok hk (by simp [RO.good]) hr
    have hle' : o + cs.length ≤ m := by rw [← len_eq]; exact Nat.le_of_ble_eq_true hle
    have hlen := hxs.length
    refine ⟨_, _, hk, run_storeCells (n := x.n) (x := x.sh + o) xs 0 c w hw (by omega) (by rw [h1]; exact h5) (hxs.one hone), ?_⟩
    refine set_post hs hf hl hx (by simp) ?_
    obtain ⟨n, sh, sz⟩ := x
    refine .cells (by rw [putArr_size]; exact h1) h2 (fun i hi => ?_) (fun i hi => by rw [T.has_puts]; exact h4 i hi) h5
    have hh : ∀ j, j < cs.length → t'.has (o + j) = true := fun j hj => h4 _ (by omega)
    simp only at h1 h2 h3 h4 ⊢
    rw [putArr_get xs c _ _ (by omega), T.get_puts un cs o i t' hh]
    by_cases hin : o ≤ i ∧ i < o + cs.length
    · rw [if_pos (by omega), if_pos hin]
      obtain ⟨y, g1, g2⟩ := hxs.get un (i - o) (by omega)
      exact ⟨y, by rw [← g1]; congr 1; omega, g2⟩
    · rw [if_neg (by omega), if_neg hin]
      exact h3 i hi
  · subst hk; cases hr
theorem newB_ok {x : B} {f : H → RO} (hk : newB h s x f = r) (hr : r.good) (hs : Sim e h w) (hf : Free e s) (hg : x ≠ .gone) {ob : Obj} {sz : Nat} (hb : ∀ e', e.le e' → BR e' ⟨w.heap.size, 0, sz⟩ x ob) :
    ∃ h' e', f h' = r ∧ e' s = some ⟨w.heap.size, 0, sz⟩ ∧ Post e s h w e' (s + 1) h' (w.alloc ob) := by
  unfold newB at hk
  obtain ⟨h1, hk⟩ := bif_ok hk (by simp [RO.good]) hr
  obtain ⟨e', h2, h3⟩ := alloc_post hs hf h1 hg hb
  exact ⟨_, e', hk, h2, h3⟩
/-- The tree of a list. -/
theorem tree_has (cs : List V) (i : Nat) : (tree cs).has i = true ↔ i < cs.length := by
  unfold tree
  rw [T.has_puts, T.has_mk _ _ _ _ (by rw [len_eq]; have := @Nat.lt_log2_self (cs.length + 1); rw [show Nat.succ cs.length = cs.length + 1 from rfl]; omega), len_eq]
theorem tree_get (cs : List V) (i : Nat) (hi : i < cs.length) : (tree cs).get un i = cs.getD i un := by
  unfold tree
  rw [T.get_puts un cs 0 i _ (fun j hj => by
    have := (tree_has cs j).2 hj
    unfold tree at this
    rw [T.has_puts] at this
    simpa using this), if_pos (by omega)]
  simp
theorem tree_BR {cs : List V} {xs rest : List Value} {n sh : Nat} {el : TypeId} (h : VRs e cs xs) {c : Array Value} (hc : ∀ i, i < cs.length → c[sh + i]? = xs[i]?) (hsz : sh + cs.length ≤ c.size) {fr : Nat × Nat} (hf : fr.1 = fr.2 ∨ c.size ≤ fr.1) :
    BR e ⟨n, sh, c.size⟩ (.cells (tree cs) (len cs)) (.cells c el fr) := by
  refine .cells rfl (by rw [len_eq]; exact hsz) (fun i hi => ?_) (fun i hi => (tree_has cs i).2 (by rwa [len_eq] at hi)) hf
  rw [len_eq] at hi
  obtain ⟨y, g1, g2⟩ := h.get un i hi
  exact ⟨y, by rw [hc i hi]; exact g1, by rw [tree_get cs i hi]; exact g2⟩
theorem newCells_ok {cs : List V} {f : H → RO} (hk : newB h s (.cells (tree cs) (len cs)) f = r) (hr : r.good) (hs : Sim e h w) (hf : Free e s) {xs : List Value} (hx : VRs e cs xs) (el : TypeId) :
    ∃ h' e', f h' = r ∧ e' s = some ⟨w.heap.size, 0, xs.length⟩ ∧ Post e s h w e' (s + 1) h' (w.alloc (.cells ⟨xs⟩ el (0, 0))) := by
  refine newB_ok hk hr hs hf (by simp) (fun e' hle => ?_)
  have hl := hx.length
  refine tree_BR (rest := []) (hx.mono hle) (c := ⟨xs⟩) (sh := 0) (fun i hi => by simp) (by simp; omega) (by simp)
theorem run_newRow (el : TypeId) (cs : Array Value) : (newRow el cs).run P w = .ok ⟨w.heap.size, 0, none⟩ (w.alloc (.cells cs el (0, 0))) := rfl
theorem run_newVar (el : TypeId) (v : Value) : (newVar el v).run P w = .ok ⟨w.heap.size, 0, none⟩ (w.alloc (.cells v.cells el (0, 0))) := rfl
theorem run_newObj (ob : Obj) : (newObj ob).run P w = .ok w.heap.size (w.alloc ob) := rfl
theorem run_getObj {n : Nat} {ob : Obj} (hw : w.heap[n]? = some ob) (hn : ∀ c el fr, ob ≠ .cells c el fr) : (getObj n).run P w = .ok ob w := by
  cases ob <;> first | exact absurd rfl (hn _ _ _) | simp [getObj, Sem.run, hw]
theorem run_setObj {n : Nat} {ob ob' : Obj} (hw : w.heap[n]? = some ob) (hn : ∀ c el fr, ob ≠ .cells c el fr) : (setObj n ob').run P w = .ok () { w with heap := w.heap.setIfInBounds n ob' } := by
  cases ob <;> first | exact absurd rfl (hn _ _ _) | simp [setObj, Sem.run, hw]
/-- An operation that asks nothing of memory and leaves it as it is. -/
theorem pure_ok {m : Sem Next} {v : V} {x : Value} (hs : Sim e h w) (hf : Free e s) (hv : VR e v x) (hm : m.run P w = .ok (.value x) w) : Gives P m w (Good e s h w v h s) :=
  gives_value hm ⟨e, hv, Post.refl hs hf⟩
abbrev OpOk (P : Program) (e : Env) (s : Nat) (h : H) (w : World) (a : Act) (o : Oper) (k : K) (r : RO) : Prop := ∃ v h' s', k v h' s' = r ∧ Gives P (execOp a.eval o) w (Good e s h w v h' s')
/-- An operation that leaves memory as it is. -/
abbrev PureOk (P : Program) (e : Env) (s : Nat) (h : H) (w : World) (a : Act) (o : Oper) (k : K) (r : RO) : Prop := ∃ v x, k v h s = r ∧ VR e v x ∧ (execOp a.eval o).run P w = .ok (.value x) w
theorem PureOk.ok (hs : Sim e h w) (hf : Free e s) (p : PureOk P e s h w a o k r) : OpOk P e s h w a o k r := by
  obtain ⟨v, x, h1, h2, h3⟩ := p
  exact ⟨v, h, s, h1, gives_value h3 ⟨e, h2, Post.refl hs hf⟩⟩
theorem oMove_pure {x : Operand} (hk : oMove x P pr ih t h s k = r) (hr : r.good) (ha : AR D e t a) (hs : Sim e h w) (ho : o.op = .move x ∨ o.op = .assign x) : PureOk P e s h w a o k r := by
  obtain ⟨v, h1, hv⟩ := opnd_ok (a := a) hk hr ha
  refine ⟨v, _, h1, hv, ?_⟩
  rcases ho with ho | ho <;> simp [execOp, ho]
theorem oPick_pure {c x y : Operand} (hk : oPick c x y P pr ih t h s k = r) (hr : r.good) (ha : AR D e t a) (hs : Sim e h w) (ho : o.op = .pick c x y) : PureOk P e s h w a o k r := by
  obtain ⟨v, h1, hv⟩ := opnd_ok (a := a) hk hr ha
  split at h1
  · obtain ⟨u, h2, hu⟩ := opnd_ok (a := a) h1 hr ha
    refine ⟨u, _, h2, hu, ?_⟩
    generalize hc : a.eval c = cv at hv
    cases hv
    simp [execOp, ho, hc, asBool, Result.andThen]
  · obtain ⟨u, h2, hu⟩ := opnd_ok (a := a) h1 hr ha
    refine ⟨u, _, h2, hu, ?_⟩
    generalize hc : a.eval c = cv at hv
    cases hv
    simp [execOp, ho, hc, asBool, Result.andThen]
  · subst h1; cases hr
theorem zeroV_ok {ty : TypeId} {z : V} (h : zeroV P ty = some z) : ∃ i zv, P.info? ty = some i ∧ i.zero = some zv ∧ VR e z zv ∧ ∀ w, (zeroValue ty).run P w = .ok zv w := by
  unfold zeroV at h
  split at h
  · rename_i i hi
    split at h
    · rename_i zv hz
      exact ⟨i, zv, hi, hz, ofV_VR h, fun w => by simp [zeroValue, run_typeInfo' hi, hz, Result.andThen]⟩
    · cases h
  · cases h
theorem oAlloc_ok {ty : TypeId} (hk : oAlloc ty P pr ih t h s k = r) (hr : r.good) (ha : AR D e t a) (hs : Sim e h w) (hf : Free e s) (ho : o.op = .alloc ty) : OpOk P e s h w a o k r := by
  unfold oAlloc at hk
  split at hk
  · rename_i z hz
    obtain ⟨i, zv, hi, hz2, hv, hrun⟩ := zeroV_ok (e := e) hz
    obtain ⟨h', e', h1, h2, h3⟩ := newCells_ok hk hr hs hf hv.cells ty
    refine ⟨_, _, _, h1, gives_value (x := .pointer (some ⟨w.heap.size, 0, none⟩)) (w' := w.alloc (.cells ⟨zv.cells.toList⟩ ty (0, 0))) ?_ ⟨e', ?_, h3⟩⟩
    · simp [execOp, ho, Instr.alloc, hrun, Result.andThen, run_newVar]
    · simpa using VR.ptr (o := 0) h2
  · subst hk; cases hr
theorem oBox_ok {ty : TypeId} {x : Operand} (hk : oBox ty x P pr ih t h s k = r) (hr : r.good) (ha : AR D e t a) (hs : Sim e h w) (hf : Free e s) (ho : o.op = .box ty x) : OpOk P e s h w a o k r := by
  obtain ⟨v, hk, hv⟩ := opnd_ok (a := a) hk hr ha
  obtain ⟨h', e', h1, h2, h3⟩ := newCells_ok hk hr hs hf hv.cells ty
  refine ⟨_, _, _, h1, gives_value (x := .pointer (some ⟨w.heap.size, 0, none⟩)) (w' := w.alloc (.cells ⟨(a.eval x).cells.toList⟩ ty (0, 0))) ?_ ⟨e', ?_, h3⟩⟩
  · simp [execOp, ho, Instr.box, Result.andThen, run_newVar]
  · simpa using VR.ptr (o := 0) h2
theorem oLoad_pure {ty : TypeId} {x : Operand} (hk : oLoad ty x P pr ih t h s k = r) (hr : r.good) (ha : AR D e t a) (hs : Sim e h w) (ho : o.op = .load ty x) : PureOk P e s h w a o k r := by
  obtain ⟨v, hk, hv⟩ := opnd_ok (a := a) hk hr ha
  split at hk
  · rename_i b off
    generalize hc : a.eval x = cv at hv
    cases hv with
    | ptr hb =>
      obtain ⟨v, h1, y, hy, hrun⟩ := loadV_ok (P := P) hk hr hs hb
      refine ⟨v, _, h1, hy, ?_⟩
      simp [execOp, ho, Instr.loadAt, hc, Instr.sureAddr, Result.andThen, hrun]
  · rename_i j off
    generalize hc : a.eval x = cv at hv
    cases hv with
    | xp hb hl =>
      obtain ⟨d, hd, ⟨hd2, hk⟩ | ⟨hd2, hk⟩⟩ := ifAgg_ok hk hr
      · subst hk; cases hr
      · obtain ⟨cs, el, fr, h1, h2, h3⟩ := ext_at hs hb hl
        refine ⟨_, _, hk, .sx rfl h3, ?_⟩
        have hcell := (cell_at h1).trans h2
        simp [execOp, ho, Instr.loadAt, hc, Instr.sureAddr, Result.andThen, loadVar, run_isAgg hd, hd2, load, Sem.run, hcell]
        try rfl
  · subst hk; cases hr
theorem oStore_ok {ty : TypeId} {x y : Operand} (hk : oStore ty x y P pr ih t h s k = r) (hr : r.good) (ha : AR D e t a) (hs : Sim e h w) (hf : Free e s) (ho : o.op = .store ty x y) : OpOk P e s h w a o k r := by
  obtain ⟨v, hk, hv⟩ := opnd_ok (a := a) hk hr ha
  split at hk
  · rename_i b off
    generalize hc : a.eval x = cv at hv
    cases hv with
    | ptr hb =>
      obtain ⟨u, hk, hu⟩ := opnd_ok (a := a) hk hr ha
      obtain ⟨hz, hk⟩ := bif_ok hk (by simp [RO.good]) hr
      split at hk
      case h_2 => subst hk; cases hr
      rename_i i hi
      have hz' : (a.eval y).cells.size = P.cellsOf ty := by
        have := hu.cells.length
        rw [len_eq] at hz
        rw [← Nat.eq_of_beq_eq_true hz, this]; simp
      obtain ⟨h', w', h1, hrun, hp⟩ := storeV_ok (P := P) hk hr hs hf hb hu.cells
      refine ⟨_, _, _, h1, gives_skip (w' := w') ?_ ⟨e, undef_VR, hp⟩⟩
      simp [execOp, ho, Instr.storeAt, hc, Instr.sureAddr, Result.andThen, storeVar, run_sizeOf' hi, hz', hrun]
  · subst hk; cases hr
theorem methV_ok {u : TypeId} {nm : String} {f : Nat} (h : methV P u nm = some f) : ∃ el i m, P.underlying u = some (.pointer el) ∧ P.info? u = some i ∧ i.methods.find? (fun m => m.name == nm) = some m ∧ m.path.toList = [] ∧ m.func = some (f, true) := by
  unfold methV at h
  split at h
  · rename_i el hu
    split at h
    · rename_i i hi
      split at h
      · rename_i m hm
        cases hp : m.path.isEmpty with
        | false => rw [hp] at h; cases h
        | true =>
          rw [hp] at h
          simp only [cond_true] at h
          split at h
          · rename_i g hg
            injection h with h
            subst h
            exact ⟨el, i, m, hu, hi, hm, by simpa using hp, hg⟩
          · cases h
      · cases h
    · cases h
  · cases h
theorem run_nilAhead' {u : TypeId} {nm : String} {f n : Nat} (h : methV P u nm = some f) (x : Value) : (nilAhead (n + 1) u x nm).run P w = .ok (some false) w := by
  obtain ⟨el, i, m, h1, h2, h3, h4, h5⟩ := methV_ok h
  simp [nilAhead, run_typeInfo' h2, Result.andThen, h3, h4, followBlind, h5]
theorem run_method' {u : TypeId} {nm : String} {f n : Nat} (h : methV P u nm = some f) (x : Value) : (method (n + 1) u x nm).run P w = .ok (f, x) w := by
  obtain ⟨el, i, m, h1, h2, h3, h4, h5⟩ := methV_ok h
  simp [method, run_typeInfo' h2, Result.andThen, h3, h4, follow, h5, receiverAt, run_under h1, Place.get]
theorem oNilCheck_pure {x : Operand} (hk : oNilCheck x P pr ih t h s k = r) (hr : r.good) (ha : AR D e t a) (hs : Sim e h w) (ho : o.op = .nilCheck x) : PureOk P e s h w a o k r := by
  obtain ⟨v, hk, hv⟩ := opnd_ok (a := a) hk hr ha
  generalize hc : a.eval x = cv at hv
  split at hk
  · refine ⟨_, _, hk, hv, ?_⟩
    cases hv; simp [execOp, ho, hc]
  · refine ⟨_, _, hk, hv, ?_⟩
    cases hv; simp [execOp, ho, hc]
  · refine ⟨_, _, hk, hv, ?_⟩
    cases hv; simp [execOp, ho, hc]
  · refine ⟨_, _, hk, hv, ?_⟩
    cases hv; simp [execOp, ho, hc]
  · rename_i nm u y
    cases hm : methV P u nm with
    | none => rw [hm] at hk; subst hk; cases hr
    | some f =>
      rw [hm] at hk
      refine ⟨_, _, hk, hv, ?_⟩
      cases hv with
      | mfn hv => cases hv with
        | ifc hv =>
          rename_i x
          have hn := run_nilAhead' (P := P) (w := w) (n := P.types.size + 99) hm x
          simp only [Nat.add_assoc, Nat.reduceAdd] at hn; simp [execOp, ho, hc, Result.andThen, Made.depth, hn]
  · subst hk; cases hr
theorem oExtract_pure {x : Operand} {i : Nat} (hk : oExtract x i P pr ih t h s k = r) (hr : r.good) (ha : AR D e t a) (hs : Sim e h w) (ho : o.op = .extract x i) : PureOk P e s h w a o k r := by
  obtain ⟨v, hk, hv⟩ := opnd_ok (a := a) hk hr ha
  generalize hc : a.eval x = cv at hv
  split at hk
  · cases hv with
    | tup hl =>
      rename_i l xs
      split at hk
      · rename_i u l' hd
        have hdr := hl.drop i
        rw [hd] at hdr
        generalize hxd : xs.drop i = xd at hdr
        cases hdr with
        | cons hu hrest =>
          rename_i y ys
          refine ⟨_, _, hk, hu, ?_⟩
          have hget : xs[i]? = some y := by
            have := congrArg (fun l => l[0]?) hxd
            simpa using this
          simp [execOp, ho, hc, Instr.extract, hget, Result.andThen]
      · subst hk; cases hr
  · subst hk; cases hr
end Go.Ev
