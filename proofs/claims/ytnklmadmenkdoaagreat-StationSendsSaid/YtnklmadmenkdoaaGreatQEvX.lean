/- An evaluator of the model's code: operations that leave memory as it is, operations that make a block. An evaluator of the model's code: a pass through a region that draws its order. An evaluator of the model's code: what a pass knows of a region that draws its order. -/
import Derived.Test.YtnklmadmenkdoaaGreatQEvU
set_option linter.unusedVariables false
set_option linter.unusedSimpArgs false
set_option linter.unusedSectionVars false
namespace Go.Ev
variable {D : List Deferred}
variable {P : Program} {pr : Prims} {ih : Rn} {e : Env} {t t' : T V} {h : H} {s : Nat} {w : World} {a : Act} {r : RO} {k : K} {o : Oper}
theorem builtinP_ok {b : Builtin} {at_ : Array TypeId} {args : List V} {xs : List Value} {ty : TypeId} {cs : Array Bool} (hb : b = .len ∨ b = .cap ∨ b = .max ∨ b = .min) (hk : builtinV b at_ args P h s k = r) (hr : r.good) (hs : Sim e h w) (hx : VRs e args xs) :
    ∃ v z, k v h s = r ∧ VR e v z ∧ (builtin b at_ ty cs ⟨xs⟩).run P w = .ok (.value z) w := by
  rcases hb with rfl | rfl | rfl | rfl
  · simp only [builtinV] at hk
    split at hk
    · rename_i tt rest x hat
      have h0 : at_[0]? = some tt := by rw [← Array.getElem?_toList, hat]; rfl
      cases hx with
      | cons hx ht => cases ht with
        | nil =>
          cases hl : lenOk P tt x with
          | true =>
            rw [hl] at hk
            simp only [cond_true] at hk
            obtain ⟨n, g1, g2⟩ := lenV_ok (ty := ty) hk hr hs hx h0 hl
            exact ⟨_, _, g1, .int _ _, run_v g2⟩
          | false =>
            rw [hl] at hk
            simp only [cond_false] at hk
            split at hk
            · rename_i hu
              cases hx with
              | @usl b l c _ _ h1 h2 =>
                exact ⟨_, .int .i64 (l : Int), hk, .iv (Int.ofNat_le.2 h1) (Int.ofNat_le.2 h2), run_v (by simp [Builtin.len_, h0, run_under hu, Result.andThen, goInt])⟩
            · rename_i hu
              cases hx with
              | @xsu _ _ a0 b l c0 c h1 h2 h3 =>
                exact ⟨_, .int .i64 (l : Int), hk, .iv (Int.natCast_nonneg _) (Int.ofNat_le.2 h2), run_v (by simp [Builtin.len_, h0, run_under hu, Result.andThen, goInt])⟩
            · subst hk; cases hr
    · subst hk; cases hr
  · simp only [builtinV] at hk
    split at hk
    · rename_i tt rest x hat
      have h0 : at_[0]? = some tt := by rw [← Array.getElem?_toList, hat]; rfl
      cases hx with
      | cons hx ht => cases ht with
        | nil =>
          split at hk
          · rename_i hu
            cases hx
            refine ⟨_, .int .i64 0, hk, .int _ _, run_v ?_⟩
            simp [Builtin.cap_, h0, run_under hu, Result.andThen, goInt]
          · rename_i hu
            obtain ⟨bv, rfl⟩ := sl_form hx
            refine ⟨_, _, hk, .int _ _, run_v (w' := w) ?_⟩
            simp [Builtin.cap_, h0, run_under hu, Result.andThen, goInt]
          · subst hk; cases hr
    · subst hk; cases hr
  · simp only [builtinV] at hk
    split at hk
    · cases hx with
      | cons hx ht => cases ht with
        | cons hy ht => cases ht with
          | nil =>
            obtain ⟨v, z, g1, g2, g3⟩ := lext_max (P := P) (w := w) hk hr hx hy
            exact ⟨v, z, g1, g2, run_v (by simpa [Builtin.max_] using g3)⟩
    · cases hx with
      | cons hx ht => cases ht with
        | cons hy ht => cases ht with
          | nil =>
            obtain ⟨v, z, g1, g2, g3⟩ := lext_max (P := P) (w := w) hk hr hx hy
            exact ⟨v, z, g1, g2, run_v (by simpa [Builtin.max_] using g3)⟩
    · rename_i kd x l
      cases hx with
      | cons hx ht =>
        cases hx
        obtain ⟨v, z, g1, g2, g3⟩ := ext_max (P := P) (w := w) hk hr ht
        exact ⟨v, z, g1, g2, run_v (by simpa [Builtin.max_] using g3)⟩
    · subst hk; cases hr
  · simp only [builtinV] at hk
    split at hk
    · cases hx with
      | cons hx ht => cases ht with
        | cons hy ht => cases ht with
          | nil =>
            obtain ⟨v, z, g1, g2, g3⟩ := lext_min (P := P) (w := w) hk hr hx hy
            exact ⟨v, z, g1, g2, run_v (by simpa [Builtin.min_] using g3)⟩
    · cases hx with
      | cons hx ht => cases ht with
        | cons hy ht => cases ht with
          | nil =>
            obtain ⟨v, z, g1, g2, g3⟩ := lext_min (P := P) (w := w) hk hr hx hy
            exact ⟨v, z, g1, g2, run_v (by simpa [Builtin.min_] using g3)⟩
    · rename_i kd x l
      cases hx with
      | cons hx ht =>
        cases hx
        obtain ⟨v, z, g1, g2, g3⟩ := ext_min (P := P) (w := w) hk hr ht
        exact ⟨v, z, g1, g2, run_v (by simpa [Builtin.min_] using g3)⟩
    · subst hk; cases hr
theorem oCall_pure {c : Call} {b : Builtin} (hcal : c.callee = .builtin b) (hb : b = .len ∨ b = .cap ∨ b = .max ∨ b = .min) (hk : oCall c P pr ih t h s k = r) (hr : r.good) (ha : AR D e t a) (hs : Sim e h w) (ho : o.op = .call c) : PureOk P e s h w a o k r := by
  obtain ⟨args, hk, hargs⟩ := opnds_ok (a := a) hk hr ha
  have hmap : (c.args.map a.eval) = ⟨c.args.toList.map a.eval⟩ := by apply Array.ext'; simp
  rw [hcal] at hk
  dsimp only at hk
  obtain ⟨v, z, g1, g2, g3⟩ := builtinP_ok (ty := o.type) (cs := c.args.map fun | .const _ => true | _ => false) hb hk hr hs hargs
  refine ⟨v, z, g1, g2, ?_⟩
  simp only [execOp, ho, resolve, hcal, Sem.run_bind, Sem.run_pure, Result.andThen, invoke, hmap]
  exact g3
theorem pureF_ok (hk : opF o.op P pr ih t h s k = r) (hr : r.good) (hc : cls o.op = 0 ∨ cls o.op = 1) (ha : AR D e t a) (hs : Sim e h w) : PureOk P e s h w a o k r := by
  cases ho : o.op <;> rw [ho] at hk hc
  case move x => exact oMove_pure (pr := pr) (ih := ih) hk hr ha hs (.inl ho)
  case assign x => exact oMove_pure (pr := pr) (ih := ih) hk hr ha hs (.inr ho)
  case pick => exact oPick_pure (pr := pr) (ih := ih) hk hr ha hs ho
  case nilCheck => exact oNilCheck_pure (pr := pr) (ih := ih) hk hr ha hs ho
  case binOp => exact oBin_pure (pr := pr) (ih := ih) hk hr ha hs ho
  case unOp => exact oUn_pure (pr := pr) (ih := ih) hk hr ha hs ho
  case convert t0 t1 x =>
    cases hq : Nat.beq t0 t1 with
    | true => simp [cls, hq] at hc
    | false =>
      change (bif Nat.beq t0 t1 then oMark t0 x else oConvert t0 t1 x) P pr ih t h s k = r at hk
      rw [hq] at hk; exact oConvert_pure (pr := pr) (ih := ih) hk hr ha hs ho
  case makeInterface => exact oMakeIface_pure (pr := pr) (ih := ih) hk hr ha hs ho
  case makeFunc => exact oMakeFunc_pure (pr := pr) (ih := ih) hk hr ha hs ho
  case slice => exact oSlice_pure (pr := pr) (ih := ih) hk hr ha hs ho
  case fieldAddr => exact oFieldAddr_pure (pr := pr) (ih := ih) hk hr ha hs ho
  case field => exact oField_pure (pr := pr) (ih := ih) hk hr ha hs ho
  case indexAddr => exact oIndexAddr_pure (pr := pr) (ih := ih) hk hr ha hs ho
  case index => exact oIndex_pure (pr := pr) (ih := ih) hk hr ha hs ho
  case extract => exact oExtract_pure (pr := pr) (ih := ih) hk hr ha hs ho
  case build => exact oBuild_pure (pr := pr) (ih := ih) hk hr ha hs ho
  case entry => exact oEntry_pure (pr := pr) (ih := ih) hk hr ha hs ho
  case load => exact oLoad_pure (pr := pr) (ih := ih) hk hr ha hs ho
  case lookup => exact oLookup_pure (pr := pr) (ih := ih) hk hr ha hs ho
  case call c =>
    obtain ⟨cal, args, at_⟩ := c
    cases cal with
    | value _ => rcases hc with hc | hc <;> cases hc
    | invoke _ _ => rcases hc with hc | hc <;> cases hc
    | builtin b =>
      have hb : b = .len ∨ b = .cap ∨ b = .max ∨ b = .min := by
        cases b <;> first | (rcases hc with hc | hc <;> cases hc; done) | simp
      exact oCall_pure (pr := pr) (ih := ih) rfl hb hk hr ha hs ho
  all_goals (rcases hc with hc | hc <;> cases hc)
/-- An operation that makes a block, wherever the block's number is free. -/
def AllocOk (P : Program) (e : Env) (w : World) (a : Act) (o : Oper) (q : Nat) (v : V) (b : B) : Prop :=
  b ≠ .gone ∧ ∃ x ob sz, (execOp a.eval o).run P w = .ok (.value x) (w.alloc ob) ∧ ∀ e', e.le e' → e' q = some ⟨w.heap.size, 0, sz⟩ → VR e' v x ∧ BR e' ⟨w.heap.size, 0, sz⟩ b ob
theorem newB_kid {q : Nat} {x : B} {g : H → RO} {h' : H} {v : V} (hk : newB E0 q x (fun h => kid v h (Nat.succ q)) = r) (hr : r.good) : r = .norm (.node v .nil .nil) (E0.set q x) (q + 1) ∧ (E0.set q x).get .gone q = x := by
  unfold newB at hk
  obtain ⟨h1, hk⟩ := bif_ok hk (by simp [RO.good]) hr
  exact ⟨hk.symm, by rw [T.get_set .gone E0 q q x h1, if_pos rfl]⟩
theorem cells_BR {cs : List V} {xs : List Value} {n : Nat} {el : TypeId} (hx : VRs e cs xs) {e' : Env} (hle : e.le e') : BR e' ⟨n, 0, xs.length⟩ (.cells (tree cs) (len cs)) (.cells ⟨xs⟩ el (0, 0)) := by
  have hl := hx.length
  exact tree_BR (rest := []) (hx.mono hle) (c := ⟨xs⟩) (sh := 0) (fun i hi => by simp) (by simp; omega) (by simp)
theorem allocF_ok {q : Nat} (hk : opF o.op P pr ih t E0 q kid = r) (hr : r.good) (hc : cls o.op = 2) (ha : AR D e t a) : ∃ v b, r = .norm (.node v .nil .nil) (E0.set q b) (q + 1) ∧ (E0.set q b).get .gone q = b ∧ AllocOk P e w a o q v b := by
  cases ho : o.op <;> rw [ho] at hk hc
  case alloc ty =>
    simp only [opF, oAlloc] at hk
    split at hk
    · rename_i z hz
      obtain ⟨i, zv, hi, hz2, hv, hrun⟩ := zeroV_ok (e := e) hz
      obtain ⟨h1, h2⟩ := newB_kid (g := fun _ => r) (h' := E0) hk hr
      refine ⟨_, _, h1, h2, by simp, .pointer (some ⟨w.heap.size, 0, none⟩), .cells ⟨zv.cells.toList⟩ ty (0, 0), zv.cells.toList.length, ?_, fun e' hle he => ⟨?_, cells_BR hv.cells hle⟩⟩
      · simp [execOp, ho, Instr.alloc, hrun, Result.andThen, run_newVar]
      · simpa using VR.ptr (o := 0) he
    · subst hk; cases hr
  case box ty x =>
    simp only [opF, oBox] at hk
    obtain ⟨v, hk, hv⟩ := opnd_ok (a := a) hk hr ha
    obtain ⟨h1, h2⟩ := newB_kid (g := fun _ => r) (h' := E0) hk hr
    refine ⟨_, _, h1, h2, by simp, .pointer (some ⟨w.heap.size, 0, none⟩), .cells ⟨(a.eval x).cells.toList⟩ ty (0, 0), (a.eval x).cells.toList.length, ?_, fun e' hle he => ⟨?_, cells_BR hv.cells hle⟩⟩
    · simp [execOp, ho, Instr.box, Result.andThen, run_newVar]
    · simpa using VR.ptr (o := 0) he
  case makeMap ty x =>
    simp only [opF, oMakeMap] at hk
    split at hk
    · obtain ⟨h1, h2⟩ := newB_kid (g := fun _ => r) (h' := E0) hk hr
      refine ⟨_, _, h1, h2, by simp, .map (some w.heap.size), .map #[] 0, 0, ?_, fun e' hle he => ⟨.map he, .map .nil⟩⟩
      simp [execOp, ho, Instr.makeMap, Result.andThen, run_newObj]
    · subst hk; cases hr
  case buildSlice ty n parts =>
    simp only [opF, oBuildSlice] at hk
    split at hk
    · rename_i el hu
      split at hk
      · rename_i z hz
        obtain ⟨i, zv, hi, hz2, hv, hrun⟩ := zeroV_ok (e := e) hz
        obtain ⟨hc, hk⟩ := bif_ok hk (by simp [RO.good]) hr
        obtain ⟨c1, c2, c3⟩ := and3 hc
        have c1 := Nat.eq_of_beq_eq_true c1
        have c2 : 1 ≤ P.cellsOf el := Nat.le_of_ble_eq_true c2
        have c3 : n * P.cellsOf el ≤ 16777216 := Nat.le_of_ble_eq_true c3
        rw [len_eq] at c1
        obtain ⟨l, hk, g1, g2⟩ := opparts_ok (a := a) hk hr ha
        have hrep := reps_VRs (n := n * P.cellsOf el) (c := n) hv.cells (by omega) (by rw [c1])
        obtain ⟨cs, ys, hk, k1, k2, hlen⟩ := fillV_ok hk hr hrep (fst_map l parts a.eval g1) (snd_map g2)
        obtain ⟨h1, h2⟩ := newB_kid (g := fun _ => r) (h' := E0) hk hr
        refine ⟨_, _, h1, h2, by simp, .slice (some ⟨w.heap.size, 0, none⟩) n n, .cells ⟨ys⟩ el (0, 0), ys.length, ?_, fun e' hle he => ⟨?_, cells_BR k1 hle⟩⟩
        · simp only [execOp, ho]
          refine run_v ?_
          have hsz := info_cells hi
          by_cases h0 : n * P.cellsOf el = 0
          · rw [h0] at k2
            exact run_buildSlice0 hu hi (by rw [hsz]; exact h0) (by rw [hsz]; simpa using k2)
          · exact run_buildSliceN hu hi hz2 (by rw [hsz]; omega) (by rw [hsz]; exact h0) (by rw [hsz]; exact k2)
        · have := VR.sl (e := e') (b := q) (o := 0) (l := n) (c := n) he (Nat.le_refl _)
          simpa using this
      · subst hk; cases hr
    · subst hk; cases hr
  case makeSlice ty x y =>
    simp only [opF, oMakeSlice] at hk
    split at hk
    · rename_i el hu
      obtain ⟨v, hk, hv⟩ := opnd_ok (a := a) hk hr ha
      obtain ⟨u, hk, hu2⟩ := opnd_ok (a := a) hk hr ha
      generalize hc1 : a.eval x = cv at hv
      generalize hc2 : a.eval y = cv2 at hu2
      split at hk
      · rename_i k1 l k2 c _
        cases hv; cases hu2
        split at hk
        · rename_i z hz
          obtain ⟨i, zv, hi, hz2, hv, hrun⟩ := zeroV_ok (e := e) hz
          obtain ⟨hc3, hk⟩ := bif_ok hk (by simp [RO.good]) hr
          obtain ⟨c1, c2, c3⟩ := and3 hc3
          have c1 := Nat.eq_of_beq_eq_true c1
          have c2 : 1 ≤ P.cellsOf el := Nat.le_of_ble_eq_true c2
          have c3 : c ≤ 1000000000 := Nat.le_of_ble_eq_true c3
          rw [len_eq] at c1
          obtain ⟨hc4, hk⟩ := bif_ok hk (by simp [RO.good]) hr
          obtain ⟨d1, d2⟩ := and2 hc4
          have d1 : l ≤ c := Nat.le_of_ble_eq_true d1
          have d2 : c * (P.bytesOf el + 1) ≤ 1000000000 := Nat.le_of_ble_eq_true d2
          have d3 : c * P.bytesOf el ≤ 1000000000 := by rw [Nat.mul_add] at d2; omega
          have hrep := reps_VRs (n := c * P.cellsOf el) (c := c) hv.cells (by omega) (by rw [c1])
          obtain ⟨h1, h2⟩ := newB_kid (g := fun _ => r) (h' := E0) hk hr
          refine ⟨_, _, h1, h2, by simp, .slice (some ⟨w.heap.size, 0, none⟩) l c, .cells ((Array.range (c * P.cellsOf el)).map (fun i => zv.cells[i % zv.cells.size]!)) el (0, 0), _, ?_, fun e' hle he => ⟨?_, cells_BR hrep hle⟩⟩
          · simp only [execOp, ho, hc1, hc2]
            refine run_v ?_
            have hbytes : i.bytes = P.bytesOf el := by simp [Program.bytesOf, hi]
            have hsz := info_cells hi
            have hbig : ((P.bytesOf el : Int) * (c : Int)) ≤ 1000000000 := by
              have h1 := Int.ofNat_le.2 d3
              rw [Int.natCast_mul, show ((1000000000 : Nat) : Int) = 1000000000 from rfl] at h1
              rw [Int.mul_comm]; exact h1
            have := run_make (P := P) w ty el i zv hu hi hz2 k1 k2 (l : Int) (c : Int) (by omega) (by omega) (by rw [hbytes]; omega) (by omega)
            simp only [Int.toNat_natCast, hsz] at this
            exact this
          · have := VR.sl (e := e') (b := q) (o := 0) (l := l) (c := c) he d1
            simpa using this
        · subst hk; cases hr
      · subst hk; cases hr
    · subst hk; cases hr
  case call c =>
    obtain ⟨cal, args, at_⟩ := c
    cases cal with
    | value _ => cases hc
    | invoke _ _ => cases hc
    | builtin b => cases b <;> cases hc
  case convert a b x => cases hq : Nat.beq a b <;> simp [cls, hq] at hc
  all_goals cases hc
end Go.Ev
namespace Go.Ev
variable {D : List Deferred}
variable {P : Program} {pr : Prims} {ih : Rn} {e : Env} {t t' : T V} {h : H} {s : Nat} {w : World} {a : Act} {r : RO} {k : K} {o : Oper}
structure St where
  t : T V
  g : H
  s : Nat
  q : Nat
  al : List AL
theorem cls_cases (op : Op) : cls op = 0 ∨ cls op = 1 ∨ cls op = 2 ∨ cls op = 3 := by
  cases op <;> first | exact .inl rfl | exact .inr (.inl rfl) | exact .inr (.inr (.inl rfl)) | exact .inr (.inr (.inr rfl)) | skip
  case convert a b x => cases hq : Nat.beq a b <;> simp [cls, hq]
  case call c => obtain ⟨cal, args, at_⟩ := c; cases cal with
    | value _ => exact .inr (.inr (.inr rfl))
    | invoke _ _ => exact .inr (.inr (.inr rfl))
    | builtin b => cases b <;> first | exact .inr (.inl rfl) | exact .inr (.inr (.inr rfl))
/-- One operation of the pass: 0 not taken, 1 a value that leans on no memory, 2 a value that is read, 3 a block made, 4 whatever else. -/
inductive Stp (all : List Oper) (mks : List Nat) (P : Program) (pr : Prims) (ih : Rn) (i : Nat) (o : Oper) (σ : St) (v : V) (b : B) (σ' : St) : Nat → Prop where
  | skip (hw : want all σ.t o.guard = false) (hv : v = un) (hs : σ' = { σ with t := putT o.dst σ.t un }) : Stp all mks P pr ih i o σ v b σ' 0
  | pure {t' h' s'} (hw : want all σ.t o.guard = true) (hc : cls o.op = 0) (he : opF o.op P pr ih σ.t E0 0 kid0 = .norm t' h' s') (hv : v = t'.get un 0) (hs : σ' = { σ with t := putT o.dst σ.t v }) : Stp all mks P pr ih i o σ v b σ' 1
  | read {t' h' s'} (hw : want all σ.t o.guard = true) (hc : cls o.op = 1) (he : opF o.op P pr ih σ.t σ.g 0 kid0 = .norm t' h' s') (hv : v = t'.get un 0) (hs : σ' = { σ with t := putT o.dst σ.t v }) : Stp all mks P pr ih i o σ v b σ' 2
  | make {t' h' s'} (hw : want all σ.t o.guard = true) (hc : cls o.op = 2) (he : opF o.op P pr ih σ.t E0 σ.q kid = .norm t' h' s') (hv : v = t'.get un 0) (hb : b = h'.get .gone σ.q) (hs : σ' = { σ with t := putT o.dst σ.t v, q := σ.q + 1, al := ⟨i, σ.q, b⟩ :: σ.al }) : Stp all mks P pr ih i o σ v b σ' 3
  | eff {t' h' s'} (hw : want all σ.t o.guard = true) (hc : cls o.op = 3) (he : opF o.op P pr ih σ.t (addAll (pickM true (nthN mks i) σ.al) σ.g) σ.s kid = .norm t' h' s') (hv : v = t'.get un 0) (hs : σ' = ⟨putT o.dst σ.t v, h', s', σ.q, pickM false (nthN mks i) σ.al⟩) : Stp all mks P pr ih i o σ v b σ' 4
/-- The pass, as it went. -/
structure Trace (all : List Oper) (mks : List Nat) (P : Program) (pr : Prims) (ih : Rn) (j : Nat) (hi : List HI) (ob : List OB) (σ : Nat → St) (v : Nat → V) (b : Nat → B) (c : Nat → Nat) : Prop where
  step : ∀ i o, j ≤ i → all[i]? = some o → Stp all mks P pr ih i o (σ i) (v i) (b i) (σ (i + 1)) (c i)
  hi : ∀ x ∈ hi, ∀ i o, j ≤ i → all[i]? = some o → c i = 2 → (nthN mks i).testBit x.j = false → again o.op (σ i).t (v i) x.g P pr ih = true
  ob : ∀ x ∈ ob, ∀ i o, j ≤ i → all[i]? = some o → c i = 4 → (nthN mks i).testBit x.j = false → again x.o x.t x.v (σ (i + 1)).g P pr ih = true
  down : ∀ i i' o', j ≤ i → i < i' → all[i']? = some o' → c i = 4 → c i' = 2 → (nthN mks i').testBit i = false → again o'.op (σ i').t (v i') (σ i).g P pr ih = true
  up : ∀ i i' o o', j ≤ i → i < i' → all[i]? = some o → all[i']? = some o' → c i = 2 → c i' = 4 → (nthN mks i').testBit i = false → again o.op (σ i).t (v i) (σ (i' + 1)).g P pr ih = true
theorem histOk_ok {op : Op} {v : V} {m : Nat} : ∀ {l : List HI}, histOk op t v m P pr ih l = true → ∀ x ∈ l, m.testBit x.j = false → again op t v x.g P pr ih = true
  | [], h, x, hx, hb => by cases hx
  | y :: l, h, x, hx, hb => by
    change (bif bitB m y.j then histOk op t v m P pr ih l else (bif again op t v y.g P pr ih then histOk op t v m P pr ih l else false)) = true at h
    rw [bitB_eq] at h
    cases h1 : m.testBit y.j with
    | true =>
      rw [h1] at h
      rcases List.mem_cons.1 hx with rfl | hx
      · rw [h1] at hb; cases hb
      · exact histOk_ok h x hx hb
    | false =>
      rw [h1] at h
      simp only [cond_false] at h
      cases h2 : again op t v y.g P pr ih with
      | false => rw [h2] at h; cases h
      | true =>
        rw [h2] at h
        rcases List.mem_cons.1 hx with rfl | hx
        · exact h2
        · exact histOk_ok h x hx hb
theorem oblOk_ok {g : H} {m : Nat} : ∀ {l : List OB}, oblOk g m P pr ih l = true → ∀ x ∈ l, m.testBit x.j = false → again x.o x.t x.v g P pr ih = true
  | [], h, x, hx, hb => by cases hx
  | y :: l, h, x, hx, hb => by
    change (bif bitB m y.j then oblOk g m P pr ih l else (bif again y.o y.t y.v g P pr ih then oblOk g m P pr ih l else false)) = true at h
    rw [bitB_eq] at h
    cases h1 : m.testBit y.j with
    | true =>
      rw [h1] at h
      rcases List.mem_cons.1 hx with rfl | hx
      · rw [h1] at hb; cases hb
      · exact oblOk_ok h x hx hb
    | false =>
      rw [h1] at h
      simp only [cond_false] at h
      cases h2 : again y.o y.t y.v g P pr ih with
      | false => rw [h2] at h; cases h
      | true =>
        rw [h2] at h
        rcases List.mem_cons.1 hx with rfl | hx
        · exact h2
        · exact oblOk_ok h x hx hb
/-- A trace with one operation ahead. -/
theorem Trace.cons {all : List Oper} {mks : List Nat} {j : Nat} {hi hi' : List HI} {ob ob' : List OB} {σ : Nat → St} {v : Nat → V} {b : Nat → B} {c : Nat → Nat} {st : St} {v0 : V} {b0 : B} {c0 : Nat} (ho : all[j]? = some o)
    (tr : Trace all mks P pr ih (j + 1) hi' ob' σ v b c) (hst : Stp all mks P pr ih j o st v0 b0 (σ (j + 1)) c0)
    (hhi : ∀ x ∈ hi, x ∈ hi') (hob : ∀ x ∈ ob, x ∈ ob') (hh : c0 = 2 → ∀ x ∈ hi, (nthN mks j).testBit x.j = false → again o.op st.t v0 x.g P pr ih = true)
    (hoo : c0 = 4 → ∀ x ∈ ob, (nthN mks j).testBit x.j = false → again x.o x.t x.v (σ (j + 1)).g P pr ih = true)
    (hnew : c0 = 4 → ⟨j, st.g⟩ ∈ hi') (onew : c0 = 2 → ⟨j, o.op, st.t, v0⟩ ∈ ob') :
    Trace all mks P pr ih j hi ob (fun i => if i = j then st else σ i) (fun i => if i = j then v0 else v i) (fun i => if i = j then b0 else b i) (fun i => if i = j then c0 else c i) where
  step := fun i o' hji ho' => by
    by_cases hij : i = j
    · subst hij
      rw [ho] at ho'; injection ho' with ho'; subst ho'
      simpa using hst
    · simp only [hij, if_false, show i + 1 ≠ j by omega]
      exact tr.step i o' (by omega) ho'
  hi := fun x hx i o' hji ho' hc hb => by
    by_cases hij : i = j
    · subst hij
      rw [ho] at ho'; injection ho' with ho'; subst ho'
      simp only [if_true] at hc ⊢
      exact hh hc x hx hb
    · simp only [hij, if_false] at hc ⊢
      exact tr.hi x (hhi x hx) i o' (by omega) ho' hc hb
  ob := fun x hx i o' hji ho' hc hb => by
    simp only [show i + 1 ≠ j by omega, if_false]
    by_cases hij : i = j
    · subst hij
      simp only [if_true] at hc
      exact hoo hc x hx hb
    · simp only [hij, if_false] at hc
      exact tr.ob x (hob x hx) i o' (by omega) ho' hc hb
  down := fun i i' o' hji hii ho' hc hc' hb => by
    simp only [show i' ≠ j by omega, if_false] at hc' ⊢
    by_cases hij : i = j
    · subst hij
      simp only [if_true] at hc ⊢
      exact tr.hi _ (hnew hc) i' o' (by omega) ho' hc' hb
    · simp only [hij, if_false] at hc ⊢
      exact tr.down i i' o' (by omega) hii ho' hc hc' hb
  up := fun i i' o1 o' hji hii ho1 ho' hc hc' hb => by
    simp only [show i' ≠ j by omega, show i' + 1 ≠ j by omega, if_false] at hc' ⊢
    by_cases hij : i = j
    · subst hij
      rw [ho] at ho1; injection ho1 with ho1; subst ho1
      simp only [if_true] at hc ⊢
      exact tr.ob _ (onew hc) i' o' (by omega) ho' hc' hb
    · simp only [hij, if_false] at hc ⊢
      exact tr.up i i' o1 o' (by omega) hii ho1 ho' hc hc' hb
theorem dpass_ok {all : List Oper} {mks : List Nat} {lim : Nat} : ∀ {l pre : List Oper}, all = pre ++ l → ∀ {t : T V} {g : H} {s q : Nat} {al : List AL} {hi : List HI} {ob : List OB}, dpass all mks lim P pr ih l pre.length t g s q al hi ob = r → r.good →
    ∃ σ v b c, σ pre.length = ⟨t, g, s, q, al⟩ ∧ Trace all mks P pr ih pre.length hi ob σ v b c ∧ r = .norm (σ all.length).t (addAll (σ all.length).al (σ all.length).g) (σ all.length).s ∧ (σ all.length).q ≤ lim
  | [], pre, hall, t, g, s, q, al, hi, ob, hk, hr => by
    change (bif Nat.ble q lim then RO.norm t (addAll al g) s else .err 161) = r at hk
    obtain ⟨h1, hk⟩ := bif_ok hk (by simp [RO.good]) hr
    have hlen : all.length = pre.length := by rw [hall]; simp
    have hno : ∀ i, pre.length ≤ i → all[i]? = none := fun i hi => by rw [List.getElem?_eq_none_iff]; omega
    refine ⟨fun _ => ⟨t, g, s, q, al⟩, fun _ => un, fun _ => .gone, fun _ => 0, rfl, ⟨fun i o hi ho => ?_, fun x hx i o hi ho => ?_, fun x hx i o hi ho => ?_, fun i i' o' hi hii ho => ?_, fun i i' o o' hi hii ho => ?_⟩, hk.symm, Nat.le_of_ble_eq_true h1⟩
    · rw [hno i hi] at ho; cases ho
    · rw [hno i hi] at ho; cases ho
    · rw [hno i hi] at ho; cases ho
    · rw [hno i' (by omega)] at ho; cases ho
    · rw [hno i hi] at ho; cases ho
  | o :: l, pre, hall, t, g, s, q, al, hi, ob, hk, hr => by
    have ho : all[pre.length]? = some o := by rw [hall]; simp
    have hall' : all = (pre ++ [o]) ++ l := by rw [hall]; simp
    have hlp : (pre ++ [o]).length = pre.length + 1 := by simp
    have hne : all.length ≠ pre.length := by rw [hall]; simp
    cases hw : want all t o.guard with
    | false =>
      have hk' : dpass all mks lim P pr ih l (pre.length + 1) (putT o.dst t un) g s q al hi ob = r := by
        rw [← hk]
        show _ = (bif want all t o.guard then _ else _)
        rw [hw]; rfl
      rw [← hlp] at hk'
      obtain ⟨σ, v, b, c, h1, tr, h3, h4⟩ := dpass_ok hall' hk' hr
      rw [hlp] at h1 tr
      refine ⟨_, _, _, _, ?_, tr.cons (st := ⟨t, g, s, q, al⟩) (v0 := un) (b0 := .gone) (c0 := 0) ho (h1 ▸ .skip hw rfl rfl) (fun x hx => hx) (fun x hx => hx) (fun h => by cases h) (fun h => by cases h) (fun h => by cases h) (fun h => by cases h), ?_, ?_⟩
      · simp
      · simpa [hne] using h3
      · simpa [hne] using h4
    | true =>
      have e1 : dpass all mks lim P pr ih (o :: l) pre.length t g s q al hi ob = (bif want all t o.guard then _ else _) := rfl
      rw [e1, hw, cond_true] at hk
      rcases cls_cases o.op with hc | hc | hc | hc <;> rw [hc] at hk <;> simp only [dsel] at hk
      · split at hk
        · rename_i t' h' s' he
          have hk : dpass all mks lim P pr ih l (pre.length + 1) (putT o.dst t (t'.get un 0)) g s q al hi ob = r := hk
          rw [← hlp] at hk
          obtain ⟨σ, v, b, c, h1, tr, h3, h4⟩ := dpass_ok hall' hk hr
          rw [hlp] at h1 tr
          refine ⟨_, _, _, _, ?_, tr.cons (st := ⟨t, g, s, q, al⟩) (v0 := t'.get un 0) (b0 := .gone) (c0 := 1) ho (h1 ▸ .pure hw hc he rfl rfl) (fun x hx => hx) (fun x hx => hx) (fun h => by cases h) (fun h => by cases h) (fun h => by cases h) (fun h => by cases h), ?_, ?_⟩
          · simp
          · simpa [hne] using h3
          · simpa [hne] using h4
        · subst hk; cases hr
        · subst hk; cases hr
      · split at hk
        · rename_i t' h' s' he
          obtain ⟨hck, hk⟩ := bif_ok hk (by simp [RO.good]) hr
          have hk : dpass all mks lim P pr ih l (pre.length + 1) (putT o.dst t (t'.get un 0)) g s q al hi (⟨pre.length, o.op, t, t'.get un 0⟩ :: ob) = r := hk
          rw [← hlp] at hk
          obtain ⟨σ, v, b, c, h1, tr, h3, h4⟩ := dpass_ok hall' hk hr
          rw [hlp] at h1 tr
          refine ⟨_, _, _, _, ?_, tr.cons (st := ⟨t, g, s, q, al⟩) (v0 := t'.get un 0) (b0 := .gone) (c0 := 2) ho (h1 ▸ .read hw hc he rfl rfl) (fun x hx => hx) (fun x hx => List.mem_cons_of_mem _ hx) (fun _ => histOk_ok hck) (fun h => by cases h) (fun h => by cases h) (fun _ => List.mem_cons_self), ?_, ?_⟩
          · simp
          · simpa [hne] using h3
          · simpa [hne] using h4
        · subst hk; cases hr
        · subst hk; cases hr
      · split at hk
        · rename_i t' h' s' he
          have hk : dpass all mks lim P pr ih l (pre.length + 1) (putT o.dst t (t'.get un 0)) g s (q + 1) (⟨pre.length, q, h'.get .gone q⟩ :: al) hi ob = r := hk
          rw [← hlp] at hk
          obtain ⟨σ, v, b, c, h1, tr, h3, h4⟩ := dpass_ok hall' hk hr
          rw [hlp] at h1 tr
          refine ⟨_, _, _, _, ?_, tr.cons (st := ⟨t, g, s, q, al⟩) (v0 := t'.get un 0) (b0 := h'.get .gone q) (c0 := 3) ho (h1 ▸ .make hw hc he rfl rfl rfl) (fun x hx => hx) (fun x hx => hx) (fun h => by cases h) (fun h => by cases h) (fun h => by cases h) (fun h => by cases h), ?_, ?_⟩
          · simp
          · simpa [hne] using h3
          · simpa [hne] using h4
        · subst hk; cases hr
        · subst hk; cases hr
      · split at hk
        · rename_i t' h' s' he
          obtain ⟨hck, hk⟩ := bif_ok hk (by simp [RO.good]) hr
          have hk : dpass all mks lim P pr ih l (pre.length + 1) (putT o.dst t (t'.get un 0)) h' s' q (pickM false (nthN mks pre.length) al) (⟨pre.length, g⟩ :: hi) ob = r := hk
          rw [← hlp] at hk
          obtain ⟨σ, v, b, c, h1, tr, h3, h4⟩ := dpass_ok hall' hk hr
          rw [hlp] at h1 tr
          refine ⟨_, _, _, _, ?_, tr.cons (st := ⟨t, g, s, q, al⟩) (v0 := t'.get un 0) (b0 := .gone) (c0 := 4) ho (h1 ▸ .eff hw hc he rfl rfl) (fun x hx => List.mem_cons_of_mem _ hx) (fun x hx => hx) (fun h => by cases h) (fun _ => by rw [h1]; exact oblOk_ok hck) (fun _ => List.mem_cons_self) (fun h => by cases h), ?_, ?_⟩
          · simp
          · simpa [hne] using h3
          · simpa [hne] using h4
        · subst hk; cases hr
        · subst hk; cases hr
end Go.Ev
namespace Go.Ev
variable {D : List Deferred}
variable {P : Program} {pr : Prims} {ih : Rn} {e : Env} {t0 : T V} {h : H} {w : World} {a : Act} {o : Oper}
variable {all : List Oper} {σ : Nat → St} {v : Nat → V} {b : Nat → B} {c : Nat → Nat}
theorem Stp.tt {mks : List Nat} {i : Nat} {x : St} {y : V} {z : B} {x' : St} {k : Nat} (h : Stp all mks P pr ih i o x y z x' k) : x'.t = putT o.dst x.t y := by
  cases h <;> subst_vars <;> rfl
theorem Stp.gs {mks : List Nat} {i : Nat} {x : St} {y : V} {z : B} {x' : St} {k : Nat} (h : Stp all mks P pr ih i o x y z x' k) (hk : k ≠ 4) : x'.g = x.g ∧ x'.s = x.s := by
  cases h <;> first | exact absurd rfl hk | (subst_vars; exact ⟨rfl, rfl⟩)
theorem Stp.qq {mks : List Nat} {i : Nat} {x : St} {y : V} {z : B} {x' : St} {k : Nat} (h : Stp all mks P pr ih i o x y z x' k) : (k = 3 → x'.q = x.q + 1) ∧ (k ≠ 3 → x'.q = x.q) := by
  cases h <;> subst_vars <;> refine ⟨fun h => ?_, fun h => ?_⟩ <;> first | rfl | (cases h; done) | exact absurd rfl h
theorem Stp.cls {mks : List Nat} {i : Nat} {x : St} {y : V} {z : B} {x' : St} (h : Stp all mks P pr ih i o x y z x' 4) : cls o.op = 3 := by
  cases h; assumption
/-- The temporaries where the operations of a set have come up. -/
structure TX (all : List Oper) (v : Nat → V) (t0 : T V) (L : Nat → Bool) (t : T V) : Prop where
  has : ∀ d, t.has d = t0.has d
  on : ∀ j o d, all[j]? = some o → L j = true → o.dst = some d → t0.has d = true → t.get un d = v j
  off : ∀ d, (∀ j o, all[j]? = some o → L j = true → o.dst ≠ some d) → t.get un d = t0.get un d
theorem TX.agree (hd : Drawn all) {L L' : Nat → Bool} {t t' : T V} (x : TX all v t0 L t) (x' : TX all v t0 L' t') {u : Nat} (hu : ∀ j o, all[j]? = some o → o.dst = some u → L j = L' j) : t.get un u = t'.get un u := by
  by_cases hex : ∃ (j : Nat) (o : Oper), all[j]? = some o ∧ o.dst = some u
  · obtain ⟨j, o, ho, hdst⟩ := hex
    have hl := hu j o ho hdst
    cases hL : L j with
    | true =>
      rw [hL] at hl
      cases hh : t0.has u with
      | true => rw [x.on j o u ho hL hdst hh, x'.on j o u ho hl.symm hdst hh]
      | false => rw [T.get_off un t u (by rw [x.has]; exact hh), T.get_off un t' u (by rw [x'.has]; exact hh)]
    | false =>
      rw [hL] at hl
      have none : ∀ (M : Nat → Bool), M j = false → ∀ j' o', all[j']? = some o' → M j' = true → o'.dst ≠ some u := fun M hM j' o' ho' hm hd' => by
        by_cases hjj : j' = j
        · subst hjj; rw [hM] at hm; cases hm
        · exact (hd.pair j o ho j' o' ho' hjj).dst u hdst hd'
      rw [x.off u (none L hL), x'.off u (none L' hl.symm)]
  · have none : ∀ (M : Nat → Bool), ∀ j' o', all[j']? = some o' → M j' = true → o'.dst ≠ some u := fun M j' o' ho' _ hd' => hex ⟨j', o', ho', hd'⟩
    rw [x.off u (none L), x'.off u (none L')]
theorem TX.put (hd : Drawn all) {L : Nat → Bool} {t : T V} (x : TX all v t0 L t) {i : Nat} (ho : all[i]? = some o) (hL : L i = false) : TX all v t0 (fun j => L j || decide (j = i)) (putT o.dst t (v i)) := by
  cases hdst : o.dst with
  | none =>
    refine ⟨x.has, fun j o' d ho' hl hd' hh => ?_, fun d hn => x.off d (fun j o' ho' hl => hn j o' ho' (by simp [hl]))⟩
    by_cases hj : j = i
    · subst hj; rw [ho] at ho'; injection ho' with ho'; subst ho'; rw [hdst] at hd'; cases hd'
    · exact x.on j o' d ho' (by simpa [hj] using hl) hd' hh
  | some d0 =>
    refine ⟨fun d => by show (t.set d0 (v i)).has d = _; rw [T.has_set, x.has], fun j o' d ho' hl hd' hh => ?_, fun d hn => ?_⟩
    · show (t.set d0 (v i)).get un d = v j
      by_cases hj : j = i
      · subst hj
        rw [ho] at ho'; injection ho' with ho'; subst ho'
        rw [hdst] at hd'; injection hd' with hd'; subst hd'
        rw [T.get_set un t d0 d0 _ (by rw [x.has]; exact hh), if_pos rfl]
      · have hne : d ≠ d0 := fun hdd => by
          subst hdd
          exact (hd.pair i o ho j o' ho' hj).dst d hdst hd'
        have hLj : L j = true := by simpa [hj] using hl
        cases h0 : t.has d0 with
        | true => rw [T.get_set un t d0 d _ h0, if_neg hne]; exact x.on j o' d ho' hLj hd' hh
        | false => rw [T.set_off t d0 _ h0]; exact x.on j o' d ho' hLj hd' hh
    · show (t.set d0 (v i)).get un d = _
      have hne : d ≠ d0 := fun hdd => hn i o ho (by simp) (by rw [hdst, hdd])
      have := x.off d (fun j o' ho' hl => hn j o' ho' (by simp [hl]))
      cases h0 : t.has d0 with
      | true => rw [T.get_set un t d0 d _ h0, if_neg hne]; exact this
      | false => rw [T.set_off t d0 _ h0]; exact this
theorem mem_pick {y : Bool} {m : Nat} {x : AL} : ∀ {l : List AL}, x ∈ pickM y m l ↔ x ∈ l ∧ m.testBit x.j = y
  | [] => by simp [pickM]
  | z :: l => by
    have e1 : pickM y m (z :: l) = (bif (bif y then bitB m z.j else not (bitB m z.j)) then z :: pickM y m l else pickM y m l) := rfl
    rw [e1, bitB_eq]
    have ih := mem_pick (y := y) (m := m) (x := x) (l := l)
    cases y <;> cases hb : m.testBit z.j <;> simp only [cond_true, cond_false, Bool.not_true, Bool.not_false, List.mem_cons, ih] <;> constructor <;> intro hx
    all_goals first
      | (obtain ⟨h1 | h1, h2⟩ := hx
         · subst h1; rw [hb] at h2; cases h2
         · exact ⟨h1, h2⟩)
      | exact ⟨.inr hx.1, hx.2⟩
      | (rcases hx with rfl | hx
         · exact ⟨.inl rfl, hb⟩
         · exact ⟨.inr hx.1, hx.2⟩)
      | (obtain ⟨h1 | h1, h2⟩ := hx
         · exact .inl h1
         · exact .inr ⟨h1, h2⟩)
/-- What stays the same in a region. -/
structure Rgn (all : List Oper) (P : Program) (pr : Prims) (ih : Rn) (t0 : T V) (h0 : H) (s0 lim : Nat) (σ : Nat → St) (v : Nat → V) (b : Nat → B) (c : Nat → Nat) : Prop where
  hd : Drawn all
  tr : Trace all (masks all []) P pr ih 0 [] [] σ v b c
  z : σ 0 = ⟨t0, h0, lim, s0, []⟩
  q : (σ all.length).q ≤ lim
variable {h0 : H} {s0 lim : Nat}
section
variable (R : Rgn all P pr ih t0 h0 s0 lim σ v b c)
include R
theorem Rgn.at {i : Nat} (hi : i < all.length) : ∃ o, all[i]? = some o := ⟨all[i], by simp [hi]⟩
theorem Rgn.lt {i : Nat} (ho : all[i]? = some o) : i < all.length := (List.getElem?_eq_some_iff.1 ho).1
theorem Rgn.tx : ∀ i, i ≤ all.length → TX all v t0 (fun j => decide (j < i)) (σ i).t
  | 0, _ => by
    rw [R.z]
    exact ⟨fun d => rfl, fun j o d _ hl => by simp at hl, fun d _ => rfl⟩
  | i + 1, hi => by
    obtain ⟨o, ho⟩ := R.at (i := i) (by omega)
    have st := R.tr.step i o (Nat.zero_le _) ho
    have := (Rgn.tx i (by omega)).put R.hd ho (by simp)
    rw [st.tt]
    have e1 : (fun j => decide (j < i) || decide (j = i)) = (fun j => decide (j < i + 1)) := by
      funext j; rw [← Bool.decide_or]; congr 1; apply propext; omega
    rw [e1] at this
    exact this
theorem Rgn.qle : ∀ i i', i ≤ i' → i' ≤ all.length → (σ i).q ≤ (σ i').q := by
  intro i i' h1
  induction h1 with
  | refl => intro _; exact Nat.le_refl _
  | @step m h1 ih1 =>
    intro h2
    have h2 : m + 1 ≤ all.length := h2
    obtain ⟨o, ho⟩ := R.at (i := m) (by omega)
    have st := (R.tr.step m o (Nat.zero_le _) ho).qq
    have := ih1 (by omega)
    by_cases h3 : c m = 3
    · have := st.1 h3; show (σ i).q ≤ (σ (m + 1)).q; omega
    · have := st.2 h3; show (σ i).q ≤ (σ (m + 1)).q; omega
theorem Rgn.qlt {i i' : Nat} (hi : c i = 3) (h1 : i < i') (h2 : i' ≤ all.length) : (σ i).q < (σ i').q := by
  obtain ⟨o, ho⟩ := R.at (i := i) (by omega)
  have := (R.tr.step i o (Nat.zero_le _) ho).qq.1 hi
  have := R.qle (i + 1) i' h1 h2
  omega
theorem Rgn.qlim {i : Nat} (hi : c i = 3) (h1 : i < all.length) : s0 ≤ (σ i).q ∧ (σ i).q < lim := by
  have h2 := R.qle 0 i (Nat.zero_le _) (by omega)
  rw [R.z] at h2
  have h3 := R.qlt hi h1 (Nat.le_refl _)
  have := R.q
  exact ⟨h2, by omega⟩
theorem Rgn.same : ∀ i i', i ≤ i' → i' ≤ all.length → (∀ m, i ≤ m → m < i' → c m ≠ 4) → (σ i').g = (σ i).g ∧ (σ i').s = (σ i).s := by
  intro i i' h1
  induction h1 with
  | refl => intro _ _; exact ⟨rfl, rfl⟩
  | @step m h1 ih1 =>
    intro h2 h3
    have h2 : m + 1 ≤ all.length := h2
    obtain ⟨o, ho⟩ := R.at (i := m) (by omega)
    have st := (R.tr.step m o (Nat.zero_le _) ho).gs (h3 m h1 (Nat.lt_succ_self m))
    have := ih1 (by omega) (fun k hk hk2 => h3 k hk (by omega))
    exact ⟨st.1.trans this.1, st.2.trans this.2⟩
theorem Rgn.al : ∀ m, m ≤ all.length → ∀ x, x ∈ (σ m).al ↔ ∃ i, i < m ∧ c i = 3 ∧ x = ⟨i, (σ i).q, b i⟩ ∧ ∀ i', c i' = 4 → i < i' → i' < m → (nthN (masks all []) i').testBit i = false
  | 0, _, x => by rw [R.z]; simp
  | m + 1, hm, x => by
    obtain ⟨o, ho⟩ := R.at (i := m) (by omega)
    have st := R.tr.step m o (Nat.zero_le _) ho
    have ih := Rgn.al m (by omega) x
    have key : c m ≠ 3 → c m ≠ 4 → ((∃ i, i < m ∧ c i = 3 ∧ x = ⟨i, (σ i).q, b i⟩ ∧ ∀ i', c i' = 4 → i < i' → i' < m → (nthN (masks all []) i').testBit i = false) ↔ ∃ i, i < m + 1 ∧ c i = 3 ∧ x = ⟨i, (σ i).q, b i⟩ ∧ ∀ i', c i' = 4 → i < i' → i' < m + 1 → (nthN (masks all []) i').testBit i = false) := fun h3 h4 => by
      constructor
      · rintro ⟨i, h1, h2, h5, h6⟩
        refine ⟨i, by omega, h2, h5, fun i' h7 h8 h9 => h6 i' h7 h8 ?_⟩
        have : i' ≠ m := fun hh => h4 (hh ▸ h7)
        omega
      · rintro ⟨i, h1, h2, h5, h6⟩
        have : i ≠ m := fun hh => h3 (hh ▸ h2)
        exact ⟨i, by omega, h2, h5, fun i' h7 h8 h9 => h6 i' h7 h8 (by omega)⟩
    generalize hcm : c m = k at st
    cases st with
    | skip hw hv hs => rw [hs]; exact ih.trans (key (by omega) (by omega))
    | pure hw hc he hv hs => rw [hs]; exact ih.trans (key (by omega) (by omega))
    | read hw hc he hv hs => rw [hs]; exact ih.trans (key (by omega) (by omega))
    | make hw hc he hv hb hs =>
      rw [hs]
      simp only [List.mem_cons]
      constructor
      · rintro (hx | hx)
        · exact ⟨m, by omega, hcm, hx, fun i' h7 h8 h9 => by omega⟩
        · obtain ⟨i, h1, h2, h5, h6⟩ := ih.1 hx
          refine ⟨i, by omega, h2, h5, fun i' h7 h8 h9 => h6 i' h7 h8 ?_⟩
          have : i' ≠ m := fun hh => by rw [hh, hcm] at h7; cases h7
          omega
      · rintro ⟨i, h1, h2, h5, h6⟩
        by_cases him : i = m
        · subst him; exact .inl h5
        · exact .inr (ih.2 ⟨i, by omega, h2, h5, fun i' h7 h8 h9 => h6 i' h7 h8 (by omega)⟩)
    | eff hw hc he hv hs =>
      rw [hs]
      rw [mem_pick, ih]
      constructor
      · rintro ⟨⟨i, h1, h2, h5, h6⟩, h7⟩
        refine ⟨i, by omega, h2, h5, fun i' h8 h9 h10 => ?_⟩
        by_cases him : i' = m
        · subst him; rw [h5] at h7; exact h7
        · exact h6 i' h8 h9 (by omega)
      · rintro ⟨i, h1, h2, h5, h6⟩
        have him : i ≠ m := fun hh => by rw [hh, hcm] at h2; cases h2
        refine ⟨⟨i, by omega, h2, h5, fun i' h8 h9 h10 => h6 i' h8 h9 (by omega)⟩, ?_⟩
        rw [h5]
        exact h6 m hcm (by omega) (by omega)
end
end Go.Ev
