/- An evaluator of the model's code: operations that leave memory as it is, operations that make a block. -/
import Derived.Test.YtnklmadmenkdoaaGreatEvU
set_option linter.unusedVariables false
set_option linter.unusedSimpArgs false
namespace Go.Ev
variable {D : List Deferred}
variable {P : Program} {pr : Prims} {ih : Rn} {e : Env} {t t' : T V} {h : H} {s : Nat} {w : World} {a : Act} {r : RO} {k : K} {o : Oper}
theorem builtinP_ok {b : Builtin} {at_ : Array TypeId} {args : List V} {xs : List Value} {ty : TypeId} {cs : Array Bool} (hb : b = .len ∨ b = .cap ∨ b = .max ∨ b = .min) (hk : builtinV b at_ args P h s k = r) (hr : r.good) (hs : Sim e h w) (hx : VRs e args xs) :
    ∃ v z, k v h s = r ∧ VR e v z ∧ (builtin b at_ ty cs ⟨xs⟩).run P w = .ok (.value z) w := by
  rcases hb with rfl | rfl | rfl | rfl
  · simp only [builtinV] at hk
    split at hk
    · rename_i tt rest x hat
      have h0 : at_[0]? = some tt := by rw [← Array.getElem?_toList, hat]; rfl
      cases hx with
      | cons hx ht => cases ht with
        | nil =>
          cases hl : lenOk P tt x with
          | true =>
            rw [hl] at hk
            simp only [cond_true] at hk
            obtain ⟨n, g1, g2⟩ := lenV_ok (ty := ty) hk hr hs hx h0 hl
            exact ⟨_, _, g1, .int _ _, run_v g2⟩
          | false =>
            rw [hl] at hk
            simp only [cond_false] at hk
            split at hk
            · rename_i hu
              cases hx with
              | @usl b l c _ _ h1 h2 =>
                exact ⟨_, .int .i64 (l : Int), hk, .iv (Int.ofNat_le.2 h1) (Int.ofNat_le.2 h2), run_v (by simp [Builtin.len_, h0, run_under hu, Result.andThen, goInt])⟩
            · subst hk; cases hr
    · subst hk; cases hr
  · simp only [builtinV] at hk
    split at hk
    · rename_i tt rest x hat
      have h0 : at_[0]? = some tt := by rw [← Array.getElem?_toList, hat]; rfl
      cases hx with
      | cons hx ht => cases ht with
        | nil =>
          split at hk
          · rename_i hu
            cases hx
            refine ⟨_, .int .i64 0, hk, .int _ _, run_v ?_⟩
            simp [Builtin.cap_, h0, run_under hu, Result.andThen, goInt]
          · rename_i hu
            obtain ⟨bv, rfl⟩ := sl_form hx
            refine ⟨_, _, hk, .int _ _, run_v (w' := w) ?_⟩
            simp [Builtin.cap_, h0, run_under hu, Result.andThen, goInt]
          · subst hk; cases hr
    · subst hk; cases hr
  · simp only [builtinV] at hk
    split at hk
    · rename_i kd x l
      cases hx with
      | cons hx ht =>
        cases hx
        obtain ⟨v, z, g1, g2, g3⟩ := ext_max (P := P) (w := w) hk hr ht
        exact ⟨v, z, g1, g2, run_v (by simpa [Builtin.max_] using g3)⟩
    · subst hk; cases hr
  · simp only [builtinV] at hk
    split at hk
    · rename_i kd x l
      cases hx with
      | cons hx ht =>
        cases hx
        obtain ⟨v, z, g1, g2, g3⟩ := ext_min (P := P) (w := w) hk hr ht
        exact ⟨v, z, g1, g2, run_v (by simpa [Builtin.min_] using g3)⟩
    · subst hk; cases hr
theorem oCall_pure {c : Call} {b : Builtin} (hcal : c.callee = .builtin b) (hb : b = .len ∨ b = .cap ∨ b = .max ∨ b = .min) (hk : oCall c P pr ih t h s k = r) (hr : r.good) (ha : AR D e t a) (hs : Sim e h w) (ho : o.op = .call c) : PureOk P e s h w a o k r := by
  obtain ⟨args, hk, hargs⟩ := opnds_ok (a := a) hk hr ha
  have hmap : (c.args.map a.eval) = ⟨c.args.toList.map a.eval⟩ := by apply Array.ext'; simp
  rw [hcal] at hk
  dsimp only at hk
  obtain ⟨v, z, g1, g2, g3⟩ := builtinP_ok (ty := o.type) (cs := c.args.map fun | .const _ => true | _ => false) hb hk hr hs hargs
  refine ⟨v, z, g1, g2, ?_⟩
  simp only [execOp, ho, resolve, hcal, Sem.run_bind, Sem.run_pure, Result.andThen, invoke, hmap]
  exact g3
theorem pureF_ok (hk : opF o.op P pr ih t h s k = r) (hr : r.good) (hc : cls o.op = 0 ∨ cls o.op = 1) (ha : AR D e t a) (hs : Sim e h w) : PureOk P e s h w a o k r := by
  cases ho : o.op <;> rw [ho] at hk hc
  case move x => exact oMove_pure (pr := pr) (ih := ih) hk hr ha hs (.inl ho)
  case assign x => exact oMove_pure (pr := pr) (ih := ih) hk hr ha hs (.inr ho)
  case pick => exact oPick_pure (pr := pr) (ih := ih) hk hr ha hs ho
  case nilCheck => exact oNilCheck_pure (pr := pr) (ih := ih) hk hr ha hs ho
  case binOp => exact oBin_pure (pr := pr) (ih := ih) hk hr ha hs ho
  case unOp => exact oUn_pure (pr := pr) (ih := ih) hk hr ha hs ho
  case convert t0 t1 x =>
    cases hq : Nat.beq t0 t1 with
    | true => simp [cls, hq] at hc
    | false =>
      change (bif Nat.beq t0 t1 then oMark t0 x else oConvert t0 t1 x) P pr ih t h s k = r at hk
      rw [hq] at hk; exact oConvert_pure (pr := pr) (ih := ih) hk hr ha hs ho
  case makeInterface => exact oMakeIface_pure (pr := pr) (ih := ih) hk hr ha hs ho
  case makeFunc => exact oMakeFunc_pure (pr := pr) (ih := ih) hk hr ha hs ho
  case slice => exact oSlice_pure (pr := pr) (ih := ih) hk hr ha hs ho
  case fieldAddr => exact oFieldAddr_pure (pr := pr) (ih := ih) hk hr ha hs ho
  case field => exact oField_pure (pr := pr) (ih := ih) hk hr ha hs ho
  case indexAddr => exact oIndexAddr_pure (pr := pr) (ih := ih) hk hr ha hs ho
  case index => exact oIndex_pure (pr := pr) (ih := ih) hk hr ha hs ho
  case extract => exact oExtract_pure (pr := pr) (ih := ih) hk hr ha hs ho
  case build => exact oBuild_pure (pr := pr) (ih := ih) hk hr ha hs ho
  case entry => exact oEntry_pure (pr := pr) (ih := ih) hk hr ha hs ho
  case load => exact oLoad_pure (pr := pr) (ih := ih) hk hr ha hs ho
  case lookup => exact oLookup_pure (pr := pr) (ih := ih) hk hr ha hs ho
  case call c =>
    obtain ⟨cal, args, at_⟩ := c
    cases cal with
    | value _ => rcases hc with hc | hc <;> cases hc
    | invoke _ _ => rcases hc with hc | hc <;> cases hc
    | builtin b =>
      have hb : b = .len ∨ b = .cap ∨ b = .max ∨ b = .min := by
        cases b <;> first | (rcases hc with hc | hc <;> cases hc; done) | simp
      exact oCall_pure (pr := pr) (ih := ih) rfl hb hk hr ha hs ho
  all_goals (rcases hc with hc | hc <;> cases hc)
/-- An operation that makes a block, wherever the block's number is free. -/
def AllocOk (P : Program) (e : Env) (w : World) (a : Act) (o : Oper) (q : Nat) (v : V) (b : B) : Prop :=
  b ≠ .gone ∧ ∃ x ob sz, (execOp a.eval o).run P w = .ok (.value x) (w.alloc ob) ∧ ∀ e', e.le e' → e' q = some ⟨w.heap.size, 0, sz⟩ → VR e' v x ∧ BR e' ⟨w.heap.size, 0, sz⟩ b ob
theorem newB_kid {q : Nat} {x : B} {g : H → RO} {h' : H} {v : V} (hk : newB E0 q x (fun h => kid v h (Nat.succ q)) = r) (hr : r.good) : r = .norm (.node v .nil .nil) (E0.set q x) (q + 1) ∧ (E0.set q x).get .gone q = x := by
  unfold newB at hk
  obtain ⟨h1, hk⟩ := bif_ok hk (by simp [RO.good]) hr
  exact ⟨hk.symm, by rw [T.get_set .gone E0 q q x h1, if_pos rfl]⟩
theorem cells_BR {cs : List V} {xs : List Value} {n : Nat} {el : TypeId} (hx : VRs e cs xs) {e' : Env} (hle : e.le e') : BR e' ⟨n, 0, xs.length⟩ (.cells (tree cs) (len cs)) (.cells ⟨xs⟩ el (0, 0)) := by
  have hl := hx.length
  exact tree_BR (rest := []) (hx.mono hle) (c := ⟨xs⟩) (sh := 0) (fun i hi => by simp) (by simp; omega) (by simp)
theorem allocF_ok {q : Nat} (hk : opF o.op P pr ih t E0 q kid = r) (hr : r.good) (hc : cls o.op = 2) (ha : AR D e t a) : ∃ v b, r = .norm (.node v .nil .nil) (E0.set q b) (q + 1) ∧ (E0.set q b).get .gone q = b ∧ AllocOk P e w a o q v b := by
  cases ho : o.op <;> rw [ho] at hk hc
  case alloc ty =>
    simp only [opF, oAlloc] at hk
    split at hk
    · rename_i z hz
      obtain ⟨i, zv, hi, hz2, hv, hrun⟩ := zeroV_ok (e := e) hz
      obtain ⟨h1, h2⟩ := newB_kid (g := fun _ => r) (h' := E0) hk hr
      refine ⟨_, _, h1, h2, by simp, .pointer (some ⟨w.heap.size, 0, none⟩), .cells ⟨zv.cells.toList⟩ ty (0, 0), zv.cells.toList.length, ?_, fun e' hle he => ⟨?_, cells_BR hv.cells hle⟩⟩
      · simp [execOp, ho, Instr.alloc, hrun, Result.andThen, run_newVar]
      · simpa using VR.ptr (o := 0) he
    · subst hk; cases hr
  case box ty x =>
    simp only [opF, oBox] at hk
    obtain ⟨v, hk, hv⟩ := opnd_ok (a := a) hk hr ha
    obtain ⟨h1, h2⟩ := newB_kid (g := fun _ => r) (h' := E0) hk hr
    refine ⟨_, _, h1, h2, by simp, .pointer (some ⟨w.heap.size, 0, none⟩), .cells ⟨(a.eval x).cells.toList⟩ ty (0, 0), (a.eval x).cells.toList.length, ?_, fun e' hle he => ⟨?_, cells_BR hv.cells hle⟩⟩
    · simp [execOp, ho, Instr.box, Result.andThen, run_newVar]
    · simpa using VR.ptr (o := 0) he
  case makeMap ty x =>
    simp only [opF, oMakeMap] at hk
    split at hk
    · obtain ⟨h1, h2⟩ := newB_kid (g := fun _ => r) (h' := E0) hk hr
      refine ⟨_, _, h1, h2, by simp, .map (some w.heap.size), .map #[] 0, 0, ?_, fun e' hle he => ⟨.map he, .map .nil⟩⟩
      simp [execOp, ho, Instr.makeMap, Result.andThen, run_newObj]
    · subst hk; cases hr
  case buildSlice ty n parts =>
    simp only [opF, oBuildSlice] at hk
    split at hk
    · rename_i el hu
      split at hk
      · rename_i z hz
        obtain ⟨i, zv, hi, hz2, hv, hrun⟩ := zeroV_ok (e := e) hz
        obtain ⟨hc, hk⟩ := bif_ok hk (by simp [RO.good]) hr
        obtain ⟨c1, c2, c3⟩ := and3 hc
        have c1 := Nat.eq_of_beq_eq_true c1
        have c2 : 1 ≤ P.cellsOf el := Nat.le_of_ble_eq_true c2
        have c3 : n * P.cellsOf el ≤ 16777216 := Nat.le_of_ble_eq_true c3
        rw [len_eq] at c1
        obtain ⟨l, hk, g1, g2⟩ := opparts_ok (a := a) hk hr ha
        have hrep := reps_VRs (n := n * P.cellsOf el) (c := n) hv.cells (by omega) (by rw [c1])
        obtain ⟨cs, ys, hk, k1, k2, hlen⟩ := fillV_ok hk hr hrep (fst_map l parts a.eval g1) (snd_map g2)
        obtain ⟨h1, h2⟩ := newB_kid (g := fun _ => r) (h' := E0) hk hr
        refine ⟨_, _, h1, h2, by simp, .slice (some ⟨w.heap.size, 0, none⟩) n n, .cells ⟨ys⟩ el (0, 0), ys.length, ?_, fun e' hle he => ⟨?_, cells_BR k1 hle⟩⟩
        · simp only [execOp, ho]
          refine run_v ?_
          have hsz := info_cells hi
          by_cases h0 : n * P.cellsOf el = 0
          · rw [h0] at k2
            exact run_buildSlice0 hu hi (by rw [hsz]; exact h0) (by rw [hsz]; simpa using k2)
          · exact run_buildSliceN hu hi hz2 (by rw [hsz]; omega) (by rw [hsz]; exact h0) (by rw [hsz]; exact k2)
        · have := VR.sl (e := e') (b := q) (o := 0) (l := n) (c := n) he (Nat.le_refl _)
          simpa using this
      · subst hk; cases hr
    · subst hk; cases hr
  case makeSlice ty x y =>
    simp only [opF, oMakeSlice] at hk
    split at hk
    · rename_i el hu
      obtain ⟨v, hk, hv⟩ := opnd_ok (a := a) hk hr ha
      obtain ⟨u, hk, hu2⟩ := opnd_ok (a := a) hk hr ha
      generalize hc1 : a.eval x = cv at hv
      generalize hc2 : a.eval y = cv2 at hu2
      split at hk
      · rename_i k1 l k2 c _
        cases hv; cases hu2
        split at hk
        · rename_i z hz
          obtain ⟨i, zv, hi, hz2, hv, hrun⟩ := zeroV_ok (e := e) hz
          obtain ⟨hc3, hk⟩ := bif_ok hk (by simp [RO.good]) hr
          obtain ⟨c1, c2, c3⟩ := and3 hc3
          have c1 := Nat.eq_of_beq_eq_true c1
          have c2 : 1 ≤ P.cellsOf el := Nat.le_of_ble_eq_true c2
          have c3 : c ≤ 1000000000 := Nat.le_of_ble_eq_true c3
          rw [len_eq] at c1
          obtain ⟨hc4, hk⟩ := bif_ok hk (by simp [RO.good]) hr
          obtain ⟨d1, d2⟩ := and2 hc4
          have d1 : l ≤ c := Nat.le_of_ble_eq_true d1
          have d2 : c * (P.bytesOf el + 1) ≤ 1000000000 := Nat.le_of_ble_eq_true d2
          have d3 : c * P.bytesOf el ≤ 1000000000 := by rw [Nat.mul_add] at d2; omega
          have hrep := reps_VRs (n := c * P.cellsOf el) (c := c) hv.cells (by omega) (by rw [c1])
          obtain ⟨h1, h2⟩ := newB_kid (g := fun _ => r) (h' := E0) hk hr
          refine ⟨_, _, h1, h2, by simp, .slice (some ⟨w.heap.size, 0, none⟩) l c, .cells ((Array.range (c * P.cellsOf el)).map (fun i => zv.cells[i % zv.cells.size]!)) el (0, 0), _, ?_, fun e' hle he => ⟨?_, cells_BR hrep hle⟩⟩
          · simp only [execOp, ho, hc1, hc2]
            refine run_v ?_
            have hbytes : i.bytes = P.bytesOf el := by simp [Program.bytesOf, hi]
            have hsz := info_cells hi
            have hbig : ((P.bytesOf el : Int) * (c : Int)) ≤ 1000000000 := by
              have h1 := Int.ofNat_le.2 d3
              rw [Int.natCast_mul, show ((1000000000 : Nat) : Int) = 1000000000 from rfl] at h1
              rw [Int.mul_comm]; exact h1
            have := run_make (P := P) w ty el i zv hu hi hz2 k1 k2 (l : Int) (c : Int) (by omega) (by omega) (by rw [hbytes]; omega) (by omega)
            simp only [Int.toNat_natCast, hsz] at this
            exact this
          · have := VR.sl (e := e') (b := q) (o := 0) (l := l) (c := c) he d1
            simpa using this
        · subst hk; cases hr
      · subst hk; cases hr
    · subst hk; cases hr
  case call c =>
    obtain ⟨cal, args, at_⟩ := c
    cases cal with
    | value _ => cases hc
    | invoke _ _ => cases hc
    | builtin b => cases b <;> cases hc
  case convert a b x => cases hq : Nat.beq a b <;> simp [cls, hq] at hc
  all_goals cases hc
end Go.Ev
