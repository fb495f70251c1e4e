/- An evaluator of the model's code, fifth part: the laws of single operations upon memory and values. -/
import Derived.Test.YtnklmadmenkdoaaGreatEvD
set_option linter.unusedVariables false
set_option linter.unusedSimpArgs false
namespace Go.Ev
variable {D : List Deferred}
variable {P : Program} {pr : Prims} {ih : Rn} {e : Env} {t : T V} {h : H} {s : Nat} {w : World} {a : Act} {r : RO} {k : K} {o : Oper}
theorem oneAll_ok : ∀ {l : List V}, oneAll l = true → ∀ v ∈ l, v.one = true
  | [], _, v, hv => by cases hv
  | x :: l, h, v, hv => by
    change (bif x.one then oneAll l else false) = true at h
    cases hx : x.one with
    | false => rw [hx] at h; cases h
    | true =>
      rw [hx] at h
      rcases List.mem_cons.1 hv with rfl | hv
      · exact hx
      · exact oneAll_ok h v hv
theorem VRs.one : ∀ {l : List V} {xs : List Value}, VRs e l xs → oneAll l = true → ∀ x ∈ xs, x.oneCell' = true
  | _, _, .nil, _, x, hx => by cases hx
  | _, _, .cons (v := v) hv t, h, x, hx => by
    change (bif v.one then oneAll _ else false) = true at h
    cases h0 : v.one with
    | false => rw [h0] at h; cases h
    | true =>
      rw [h0] at h
      rcases List.mem_cons.1 hx with rfl | hx
      · exact hv.one h0
      · exact VRs.one t h x hx
theorem storeV_ok {b o : Nat} {cs : List V} {f : H → RO} (hk : storeV h b o cs f = r) (hr : r.good) (hs : Sim e h w) (hf : Free e s) {x : Loc} (hx : e b = some x) {xs : List Value} (hxs : VRs e cs xs) :
    ∃ h' w', f h' = r ∧ (storeCells ⟨x.n, x.sh + o, none⟩ xs).run P w = .ok () w' ∧ Post e s h w e s h' w' := by
  unfold storeV at hk
  split at hk
  · rename_i t' m hb
    obtain ⟨hl, c, el, fr, hw, h1, h2, h3, h4, h5⟩ := cells_at hs hb hx
    obtain ⟨hle, hk⟩ := bif_ok hk (by simp [RO.good]) hr
    obtain ⟨hone, hk⟩ := bif_ok hk (by simp [RO.good]) hr
    have hle' : o + cs.length ≤ m := by rw [← len_eq]; exact Nat.le_of_ble_eq_true hle
    have hlen := hxs.length
    refine ⟨_, _, hk, run_storeCells (n := x.n) (x := x.sh + o) xs 0 c w hw (by omega) (by rw [h1]; exact h5) (hxs.one hone), ?_⟩
    refine set_post hs hf hl hx (by simp) ?_
    obtain ⟨n, sh, sz⟩ := x
    refine .cells (by rw [putArr_size]; exact h1) h2 (fun i hi => ?_) (fun i hi => by rw [T.has_puts]; exact h4 i hi) h5
    have hh : ∀ j, j < cs.length → t'.has (o + j) = true := fun j hj => h4 _ (by omega)
    simp only at h1 h2 h3 h4 ⊢
    rw [putArr_get xs c _ _ (by omega), T.get_puts un cs o i t' hh]
    by_cases hin : o ≤ i ∧ i < o + cs.length
    · rw [if_pos (by omega), if_pos hin]
      obtain ⟨y, g1, g2⟩ := hxs.get un (i - o) (by omega)
      exact ⟨y, by rw [← g1]; congr 1; omega, g2⟩
    · rw [if_neg (by omega), if_neg hin]
      exact h3 i hi
  · subst hk; cases hr
theorem newB_ok {x : B} {f : H → RO} (hk : newB h s x f = r) (hr : r.good) (hs : Sim e h w) (hf : Free e s) (hg : x ≠ .gone) {ob : Obj} {sz : Nat} (hb : ∀ e', e.le e' → BR e' ⟨w.heap.size, 0, sz⟩ x ob) :
    ∃ h' e', f h' = r ∧ e' s = some ⟨w.heap.size, 0, sz⟩ ∧ Post e s h w e' (s + 1) h' (w.alloc ob) := by
  unfold newB at hk
  obtain ⟨h1, hk⟩ := bif_ok hk (by simp [RO.good]) hr
  obtain ⟨e', h2, h3⟩ := alloc_post hs hf h1 hg hb
  exact ⟨_, e', hk, h2, h3⟩
/-- The tree of a list. -/
theorem tree_has (cs : List V) (i : Nat) : (tree cs).has i = true ↔ i < cs.length := by
  unfold tree
  rw [T.has_puts, T.has_mk _ _ _ _ (by rw [len_eq]; have := @Nat.lt_log2_self (cs.length + 1); rw [show Nat.succ cs.length = cs.length + 1 from rfl]; omega), len_eq]
theorem tree_get (cs : List V) (i : Nat) (hi : i < cs.length) : (tree cs).get un i = cs.getD i un := by
  unfold tree
  rw [T.get_puts un cs 0 i _ (fun j hj => by
    have := (tree_has cs j).2 hj
    unfold tree at this
    rw [T.has_puts] at this
    simpa using this), if_pos (by omega)]
  simp
theorem tree_BR {cs : List V} {xs rest : List Value} {n sh : Nat} {el : TypeId} (h : VRs e cs xs) {c : Array Value} (hc : ∀ i, i < cs.length → c[sh + i]? = xs[i]?) (hsz : sh + cs.length ≤ c.size) {fr : Nat × Nat} (hf : fr.1 = fr.2 ∨ c.size ≤ fr.1) :
    BR e ⟨n, sh, c.size⟩ (.cells (tree cs) (len cs)) (.cells c el fr) := by
  refine .cells rfl (by rw [len_eq]; exact hsz) (fun i hi => ?_) (fun i hi => (tree_has cs i).2 (by rwa [len_eq] at hi)) hf
  rw [len_eq] at hi
  obtain ⟨y, g1, g2⟩ := h.get un i hi
  exact ⟨y, by rw [hc i hi]; exact g1, by rw [tree_get cs i hi]; exact g2⟩
theorem newCells_ok {cs : List V} {f : H → RO} (hk : newB h s (.cells (tree cs) (len cs)) f = r) (hr : r.good) (hs : Sim e h w) (hf : Free e s) {xs : List Value} (hx : VRs e cs xs) (el : TypeId) :
    ∃ h' e', f h' = r ∧ e' s = some ⟨w.heap.size, 0, xs.length⟩ ∧ Post e s h w e' (s + 1) h' (w.alloc (.cells ⟨xs⟩ el (0, 0))) := by
  refine newB_ok hk hr hs hf (by simp) (fun e' hle => ?_)
  have hl := hx.length
  refine tree_BR (rest := []) (hx.mono hle) (c := ⟨xs⟩) (sh := 0) (fun i hi => by simp) (by simp; omega) (by simp)
theorem run_newRow (el : TypeId) (cs : Array Value) : (newRow el cs).run P w = .ok ⟨w.heap.size, 0, none⟩ (w.alloc (.cells cs el (0, 0))) := rfl
theorem run_newVar (el : TypeId) (v : Value) : (newVar el v).run P w = .ok ⟨w.heap.size, 0, none⟩ (w.alloc (.cells v.cells el (0, 0))) := rfl
theorem run_newObj (ob : Obj) : (newObj ob).run P w = .ok w.heap.size (w.alloc ob) := rfl
theorem run_getObj {n : Nat} {ob : Obj} (hw : w.heap[n]? = some ob) (hn : ∀ c el fr, ob ≠ .cells c el fr) : (getObj n).run P w = .ok ob w := by
  cases ob <;> first | exact absurd rfl (hn _ _ _) | simp [getObj, Sem.run, hw]
theorem run_setObj {n : Nat} {ob ob' : Obj} (hw : w.heap[n]? = some ob) (hn : ∀ c el fr, ob ≠ .cells c el fr) : (setObj n ob').run P w = .ok () { w with heap := w.heap.setIfInBounds n ob' } := by
  cases ob <;> first | exact absurd rfl (hn _ _ _) | simp [setObj, Sem.run, hw]
/-- An operation that asks nothing of memory and leaves it as it is. -/
theorem pure_ok {m : Sem Next} {v : V} {x : Value} (hs : Sim e h w) (hf : Free e s) (hv : VR e v x) (hm : m.run P w = .ok (.value x) w) : Gives P m w (Good e s h w v h s) :=
  gives_value hm ⟨e, hv, Post.refl hs hf⟩
abbrev OpOk (P : Program) (e : Env) (s : Nat) (h : H) (w : World) (a : Act) (o : Oper) (k : K) (r : RO) : Prop := ∃ v h' s', k v h' s' = r ∧ Gives P (execOp a.eval o) w (Good e s h w v h' s')
/-- An operation that leaves memory as it is. -/
abbrev PureOk (P : Program) (e : Env) (s : Nat) (h : H) (w : World) (a : Act) (o : Oper) (k : K) (r : RO) : Prop := ∃ v x, k v h s = r ∧ VR e v x ∧ (execOp a.eval o).run P w = .ok (.value x) w
theorem PureOk.ok (hs : Sim e h w) (hf : Free e s) (p : PureOk P e s h w a o k r) : OpOk P e s h w a o k r := by
  obtain ⟨v, x, h1, h2, h3⟩ := p
  exact ⟨v, h, s, h1, gives_value h3 ⟨e, h2, Post.refl hs hf⟩⟩
theorem oMove_pure {x : Operand} (hk : oMove x P pr ih t h s k = r) (hr : r.good) (ha : AR D e t a) (hs : Sim e h w) (ho : o.op = .move x ∨ o.op = .assign x) : PureOk P e s h w a o k r := by
  obtain ⟨v, h1, hv⟩ := opnd_ok (a := a) hk hr ha
  refine ⟨v, _, h1, hv, ?_⟩
  rcases ho with ho | ho <;> simp [execOp, ho]
theorem oPick_pure {c x y : Operand} (hk : oPick c x y P pr ih t h s k = r) (hr : r.good) (ha : AR D e t a) (hs : Sim e h w) (ho : o.op = .pick c x y) : PureOk P e s h w a o k r := by
  obtain ⟨v, h1, hv⟩ := opnd_ok (a := a) hk hr ha
  split at h1
  · obtain ⟨u, h2, hu⟩ := opnd_ok (a := a) h1 hr ha
    refine ⟨u, _, h2, hu, ?_⟩
    generalize hc : a.eval c = cv at hv
    cases hv
    simp [execOp, ho, hc, asBool, Result.andThen]
  · obtain ⟨u, h2, hu⟩ := opnd_ok (a := a) h1 hr ha
    refine ⟨u, _, h2, hu, ?_⟩
    generalize hc : a.eval c = cv at hv
    cases hv
    simp [execOp, ho, hc, asBool, Result.andThen]
  · subst h1; cases hr
theorem zeroV_ok {ty : TypeId} {z : V} (h : zeroV P ty = some z) : ∃ i zv, P.info? ty = some i ∧ i.zero = some zv ∧ VR e z zv ∧ ∀ w, (zeroValue ty).run P w = .ok zv w := by
  unfold zeroV at h
  split at h
  · rename_i i hi
    split at h
    · rename_i zv hz
      exact ⟨i, zv, hi, hz, ofV_VR h, fun w => by simp [zeroValue, run_typeInfo' hi, hz, Result.andThen]⟩
    · cases h
  · cases h
theorem oAlloc_ok {ty : TypeId} (hk : oAlloc ty P pr ih t h s k = r) (hr : r.good) (ha : AR D e t a) (hs : Sim e h w) (hf : Free e s) (ho : o.op = .alloc ty) : OpOk P e s h w a o k r := by
  unfold oAlloc at hk
  split at hk
  · rename_i z hz
    obtain ⟨i, zv, hi, hz2, hv, hrun⟩ := zeroV_ok (e := e) hz
    obtain ⟨h', e', h1, h2, h3⟩ := newCells_ok hk hr hs hf hv.cells ty
    refine ⟨_, _, _, h1, gives_value (x := .pointer (some ⟨w.heap.size, 0, none⟩)) (w' := w.alloc (.cells ⟨zv.cells.toList⟩ ty (0, 0))) ?_ ⟨e', ?_, h3⟩⟩
    · simp [execOp, ho, Instr.alloc, hrun, Result.andThen, run_newVar]
    · simpa using VR.ptr (o := 0) h2
  · subst hk; cases hr
theorem oBox_ok {ty : TypeId} {x : Operand} (hk : oBox ty x P pr ih t h s k = r) (hr : r.good) (ha : AR D e t a) (hs : Sim e h w) (hf : Free e s) (ho : o.op = .box ty x) : OpOk P e s h w a o k r := by
  obtain ⟨v, hk, hv⟩ := opnd_ok (a := a) hk hr ha
  obtain ⟨h', e', h1, h2, h3⟩ := newCells_ok hk hr hs hf hv.cells ty
  refine ⟨_, _, _, h1, gives_value (x := .pointer (some ⟨w.heap.size, 0, none⟩)) (w' := w.alloc (.cells ⟨(a.eval x).cells.toList⟩ ty (0, 0))) ?_ ⟨e', ?_, h3⟩⟩
  · simp [execOp, ho, Instr.box, Result.andThen, run_newVar]
  · simpa using VR.ptr (o := 0) h2
theorem oLoad_pure {ty : TypeId} {x : Operand} (hk : oLoad ty x P pr ih t h s k = r) (hr : r.good) (ha : AR D e t a) (hs : Sim e h w) (ho : o.op = .load ty x) : PureOk P e s h w a o k r := by
  obtain ⟨v, hk, hv⟩ := opnd_ok (a := a) hk hr ha
  split at hk
  · rename_i b off
    generalize hc : a.eval x = cv at hv
    cases hv with
    | ptr hb =>
      obtain ⟨v, h1, y, hy, hrun⟩ := loadV_ok (P := P) hk hr hs hb
      refine ⟨v, _, h1, hy, ?_⟩
      simp [execOp, ho, Instr.loadAt, hc, Instr.sureAddr, Result.andThen, hrun]
  · subst hk; cases hr
theorem oStore_ok {ty : TypeId} {x y : Operand} (hk : oStore ty x y P pr ih t h s k = r) (hr : r.good) (ha : AR D e t a) (hs : Sim e h w) (hf : Free e s) (ho : o.op = .store ty x y) : OpOk P e s h w a o k r := by
  obtain ⟨v, hk, hv⟩ := opnd_ok (a := a) hk hr ha
  split at hk
  · rename_i b off
    generalize hc : a.eval x = cv at hv
    cases hv with
    | ptr hb =>
      obtain ⟨u, hk, hu⟩ := opnd_ok (a := a) hk hr ha
      obtain ⟨hz, hk⟩ := bif_ok hk (by simp [RO.good]) hr
      split at hk
      case h_2 => subst hk; cases hr
      rename_i i hi
      have hz' : (a.eval y).cells.size = P.cellsOf ty := by
        have := hu.cells.length
        rw [len_eq] at hz
        rw [← Nat.eq_of_beq_eq_true hz, this]; simp
      obtain ⟨h', w', h1, hrun, hp⟩ := storeV_ok (P := P) hk hr hs hf hb hu.cells
      refine ⟨_, _, _, h1, gives_skip (w' := w') ?_ ⟨e, undef_VR, hp⟩⟩
      simp [execOp, ho, Instr.storeAt, hc, Instr.sureAddr, Result.andThen, storeVar, run_sizeOf' hi, hz', hrun]
  · subst hk; cases hr
theorem methV_ok {u : TypeId} {nm : String} {f : Nat} (h : methV P u nm = some f) : ∃ el i m, P.underlying u = some (.pointer el) ∧ P.info? u = some i ∧ i.methods.find? (fun m => m.name == nm) = some m ∧ m.path.toList = [] ∧ m.func = some (f, true) := by
  unfold methV at h
  split at h
  · rename_i el hu
    split at h
    · rename_i i hi
      split at h
      · rename_i m hm
        cases hp : m.path.isEmpty with
        | false => rw [hp] at h; cases h
        | true =>
          rw [hp] at h
          simp only [cond_true] at h
          split at h
          · rename_i g hg
            injection h with h
            subst h
            exact ⟨el, i, m, hu, hi, hm, by simpa using hp, hg⟩
          · cases h
      · cases h
    · cases h
  · cases h
theorem run_nilAhead' {u : TypeId} {nm : String} {f n : Nat} (h : methV P u nm = some f) (x : Value) : (nilAhead (n + 1) u x nm).run P w = .ok (some false) w := by
  obtain ⟨el, i, m, h1, h2, h3, h4, h5⟩ := methV_ok h
  simp [nilAhead, run_typeInfo' h2, Result.andThen, h3, h4, followBlind, h5]
theorem run_method' {u : TypeId} {nm : String} {f n : Nat} (h : methV P u nm = some f) (x : Value) : (method (n + 1) u x nm).run P w = .ok (f, x) w := by
  obtain ⟨el, i, m, h1, h2, h3, h4, h5⟩ := methV_ok h
  simp [method, run_typeInfo' h2, Result.andThen, h3, h4, follow, h5, receiverAt, run_under h1, Place.get]
theorem oNilCheck_pure {x : Operand} (hk : oNilCheck x P pr ih t h s k = r) (hr : r.good) (ha : AR D e t a) (hs : Sim e h w) (ho : o.op = .nilCheck x) : PureOk P e s h w a o k r := by
  obtain ⟨v, hk, hv⟩ := opnd_ok (a := a) hk hr ha
  generalize hc : a.eval x = cv at hv
  split at hk
  · refine ⟨_, _, hk, hv, ?_⟩
    cases hv; simp [execOp, ho, hc]
  · refine ⟨_, _, hk, hv, ?_⟩
    cases hv; simp [execOp, ho, hc]
  · refine ⟨_, _, hk, hv, ?_⟩
    cases hv; simp [execOp, ho, hc]
  · refine ⟨_, _, hk, hv, ?_⟩
    cases hv; simp [execOp, ho, hc]
  · rename_i nm u y
    cases hm : methV P u nm with
    | none => rw [hm] at hk; subst hk; cases hr
    | some f =>
      rw [hm] at hk
      refine ⟨_, _, hk, hv, ?_⟩
      cases hv with
      | mfn hv => cases hv with
        | ifc hv =>
          rename_i x
          have hn := run_nilAhead' (P := P) (w := w) (n := P.types.size + 99) hm x
          simp only [Nat.add_assoc, Nat.reduceAdd] at hn; simp [execOp, ho, hc, Result.andThen, Made.depth, hn]
  · subst hk; cases hr
theorem oExtract_pure {x : Operand} {i : Nat} (hk : oExtract x i P pr ih t h s k = r) (hr : r.good) (ha : AR D e t a) (hs : Sim e h w) (ho : o.op = .extract x i) : PureOk P e s h w a o k r := by
  obtain ⟨v, hk, hv⟩ := opnd_ok (a := a) hk hr ha
  generalize hc : a.eval x = cv at hv
  split at hk
  · cases hv with
    | tup hl =>
      rename_i l xs
      split at hk
      · rename_i u l' hd
        have hdr := hl.drop i
        rw [hd] at hdr
        generalize hxd : xs.drop i = xd at hdr
        cases hdr with
        | cons hu hrest =>
          rename_i y ys
          refine ⟨_, _, hk, hu, ?_⟩
          have hget : xs[i]? = some y := by
            have := congrArg (fun l => l[0]?) hxd
            simpa using this
          simp [execOp, ho, hc, Instr.extract, hget, Result.andThen]
      · subst hk; cases hr
  · subst hk; cases hr
end Go.Ev
