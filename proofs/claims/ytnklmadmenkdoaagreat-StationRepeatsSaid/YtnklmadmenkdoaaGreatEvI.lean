/- An evaluator of the model's code, ninth part: the laws of composites, makes, and maps. -/
import Derived.Test.YtnklmadmenkdoaaGreatEvH
import Derived.Laws.MakeOwn
set_option linter.unusedVariables false
set_option linter.unusedSimpArgs false
namespace Go.Ev
variable {D : List Deferred}
variable {P : Program} {pr : Prims} {ih : Rn} {e : Env} {t : T V} {h : H} {s : Nat} {w : World} {a : Act} {r : RO} {k : K} {o : Oper}
theorem fst_map (l : List (Nat × V)) (parts : Array (Nat × Operand)) (f : Operand → Value) (h : l.map (·.1) = parts.toList.map (·.1)) : l.map (·.1) = (parts.map fun (i, x) => (i, f x)).toList.map (·.1) := by
  rw [h]; simp [Function.comp_def]
theorem snd_map {l : List (Nat × V)} {parts : Array (Nat × Operand)} {f : Operand → Value} (h : VRs e (l.map (·.2)) (parts.toList.map fun p => f p.2)) : VRs e (l.map (·.2)) ((parts.map fun (i, x) => (i, f x)).toList.map (·.2)) := by
  have : (parts.map fun (i, x) => (i, f x)).toList.map (·.2) = parts.toList.map fun p => f p.2 := by simp [Function.comp_def]
  rw [this]; exact h
theorem oBuild_pure {ty : TypeId} {parts : Array (Nat × Operand)} (hk : oBuild ty parts P pr ih t h s k = r) (hr : r.good) (ha : AR D e t a) (hs : Sim e h w) (ho : o.op = .build ty parts) : PureOk P e s h w a o k r := by
  unfold oBuild at hk
  split at hk
  · rename_i fs hu
    split at hk
    · rename_i pl z hpl hz
      obtain ⟨i, zv, hi, hz2, hv, hrun⟩ := zeroV_ok (e := e) hz
      obtain ⟨l, hk, g1, g2⟩ := opparts_ok (a := a) hk hr ha
      obtain ⟨cs, ys, hk, h1, h2, _⟩ := fillV_ok hk hr hv.cells (fst_map l parts a.eval g1) (snd_map g2)
      refine ⟨_, _, hk, .agg h1, ?_⟩
      have hb := run_build (P := P) w ty (parts.map fun (i, x) => (i, a.eval x)) ⟨ys⟩ (by
        unfold Program.built
        unfold placesOf at hpl
        simp only [hi, hu, hz2, hpl]
        simpa using h2)
      simp only [execOp, ho]
      exact run_v hb
    · subst hk; cases hr
  · rename_i n el hu
    split at hk
    · rename_i ie z hie hz
      obtain ⟨i, zv, hi, hz2, hv, hrun⟩ := zeroV_ok (e := e) hz
      obtain ⟨l, hk, g1, g2⟩ := opparts_ok (a := a) hk hr ha
      obtain ⟨cs, ys, hk, h1, h2, _⟩ := fillV_ok hk hr hv.cells (fst_map l parts a.eval g1) (snd_map g2)
      refine ⟨_, _, hk, .agg h1, ?_⟩
      have hb := run_build (P := P) w ty (parts.map fun (i, x) => (i, a.eval x)) ⟨ys⟩ (by
        unfold Program.built
        simp only [hi, hu, hz2, hie]
        rw [info_cells hie]
        simpa using h2)
      simp only [execOp, ho]
      exact run_v hb
    · subst hk; cases hr
  · subst hk; cases hr
theorem reps_len (z : List V) : ∀ n, (reps z n).length = n * z.length
  | 0 => by rw [Nat.zero_mul]; rfl
  | n + 1 => by show (z ++ reps z n).length = _; rw [List.length_append, reps_len z n, Nat.succ_mul]; omega
theorem reps_get (z : List V) (hz : 0 < z.length) : ∀ n i, i < n * z.length → (reps z n)[i]? = z[i % z.length]?
  | 0, i, h => by simp at h
  | n + 1, i, h => by
    show (z ++ reps z n)[i]? = _
    by_cases hi : i < z.length
    · rw [List.getElem?_append_left hi, Nat.mod_eq_of_lt hi]
    · rw [List.getElem?_append_right (by omega), reps_get z hz n (i - z.length) (by rw [Nat.succ_mul] at h; omega)]
      rw [← Nat.mod_eq_sub_mod (by omega)]
theorem reps_VRs {z : List V} {zs : Array Value} {n c : Nat} (hz : VRs e z zs.toList) (hp : 0 < z.length) (hn : n = c * z.length) : VRs e (reps z c) ((Array.range n).map (fun i => zs[i % zs.size]!)).toList := by
  have hzl : z.length = zs.size := by rw [hz.length]; simp
  refine VRs.ofFn (by rw [reps_len]; simp [hn]) (fun i hi => ?_)
  rw [reps_len] at hi
  have hm : i % z.length < z.length := Nat.mod_lt _ hp
  obtain ⟨y, g1, g2⟩ := hz.get un (i % z.length) hm
  refine ⟨z.getD (i % z.length) un, y, ?_, ?_, g2⟩
  · rw [reps_get z hp c i hi, List.getD_eq_getElem?_getD]; simp [hm]
  · have hi' : i < n := by omega
    have : zs[i % zs.size]? = some y := by rw [← hzl, ← Array.getElem?_toList]; exact g1
    simp only [Array.toList_map, Array.toList_range, List.getElem?_map]
    rw [List.getElem?_range hi']
    simp [getElem!_def, this]
theorem run_buildSliceN {ty el : TypeId} {n : Nat} {parts : Array (Nat × Value)} {cells : Array Value} {ie : TypeInfo} {z : Value}
    (hu : P.underlying ty = some (.slice el)) (hie : P.info? el = some ie) (hz : ie.zero = some z) (hsmall : ¬ n * ie.size > 2 ^ 24) (hpos : ¬ n * ie.size = 0)
    (h : Instr.fill (fun i => some (i * ie.size, ie.size)) ((Array.range (n * ie.size)).map (z.cells[· % z.cells.size]!)) parts.toList = some cells) :
    (Instr.buildSlice ty n parts).run P w = .ok (.slice (some ⟨w.heap.size, 0, none⟩) n n) (w.alloc (.cells cells el (0, 0))) := by
  simp [Instr.buildSlice, run_underlying hu, sizeOf, typeInfo, zeroValue, hie, hz, hsmall, hpos, h, newRow]
theorem run_buildSlice0 {ty el : TypeId} {n : Nat} {parts : Array (Nat × Value)} {cells : Array Value} {ie : TypeInfo}
    (hu : P.underlying ty = some (.slice el)) (hie : P.info? el = some ie) (hpos : n * ie.size = 0)
    (h : Instr.fill (fun i => some (i * ie.size, ie.size)) #[] parts.toList = some cells) :
    (Instr.buildSlice ty n parts).run P w = .ok (.slice (some ⟨w.heap.size, 0, none⟩) n n) (w.alloc (.cells cells el (0, 0))) := by
  have hr0 : ∀ f : Nat → Value, (Array.range 0).map f = #[] := fun f => by simp
  simp only [Instr.buildSlice, Sem.run_bind, run_underlying hu, Result.andThen, run_sizeOf' hie, ← info_cells hie, hpos, if_pos]
  rw [if_neg (by decide)]
  simp [hr0, h, newRow]
theorem oBuildSlice_ok {ty : TypeId} {n : Nat} {parts : Array (Nat × Operand)} (hk : oBuildSlice ty n parts P pr ih t h s k = r) (hr : r.good) (ha : AR D e t a) (hs : Sim e h w) (hf : Free e s) (ho : o.op = .buildSlice ty n parts) : OpOk P e s h w a o k r := by
  unfold oBuildSlice at hk
  split at hk
  · rename_i el hu
    split at hk
    · rename_i z hz
      obtain ⟨i, zv, hi, hz2, hv, hrun⟩ := zeroV_ok (e := e) hz
      obtain ⟨hc, hk⟩ := bif_ok hk (by simp [RO.good]) hr
      obtain ⟨c1, c2, c3⟩ := and3 hc
      have c1 := Nat.eq_of_beq_eq_true c1
      have c2 : 1 ≤ P.cellsOf el := Nat.le_of_ble_eq_true c2
      have c3 : n * P.cellsOf el ≤ 16777216 := Nat.le_of_ble_eq_true c3
      rw [len_eq] at c1
      obtain ⟨l, hk, g1, g2⟩ := opparts_ok (a := a) hk hr ha
      have hrep := reps_VRs (n := n * P.cellsOf el) (c := n) hv.cells (by omega) (by rw [c1])
      obtain ⟨cs, ys, hk, h1, h2, hlen⟩ := fillV_ok hk hr hrep (fst_map l parts a.eval g1) (snd_map g2)
      obtain ⟨h', e', h3, h4, h5⟩ := newCells_ok hk hr hs hf h1 el
      have hyl : ys.length = n * P.cellsOf el := by rw [← h1.length, hlen, reps_len, c1]
      refine ⟨_, _, _, h3, gives_value (x := .slice (some ⟨w.heap.size, 0, none⟩) n n) (w' := w.alloc (.cells ⟨ys⟩ el (0, 0))) ?_ ⟨e', ?_, h5⟩⟩
      · simp only [execOp, ho]
        refine run_v ?_
        have hsz := info_cells hi
        by_cases h0 : n * P.cellsOf el = 0
        · rw [h0] at h2
          exact run_buildSlice0 hu hi (by rw [hsz]; exact h0) (by rw [hsz]; simpa using h2)
        · exact run_buildSliceN hu hi hz2 (by rw [hsz]; omega) (by rw [hsz]; exact h0) (by rw [hsz]; exact h2)
      · have := VR.sl (e := e') (b := s) (o := 0) (l := n) (c := n) h4 (Nat.le_refl _)
        simpa using this
    · subst hk; cases hr
  · subst hk; cases hr
theorem oMakeSlice_ok {ty : TypeId} {x y : Operand} (hk : oMakeSlice ty x y P pr ih t h s k = r) (hr : r.good) (ha : AR D e t a) (hs : Sim e h w) (hf : Free e s) (ho : o.op = .makeSlice ty x y) : OpOk P e s h w a o k r := by
  unfold oMakeSlice at hk
  split at hk
  · rename_i el hu
    obtain ⟨v, hk, hv⟩ := opnd_ok (a := a) hk hr ha
    obtain ⟨u, hk, hu2⟩ := opnd_ok (a := a) hk hr ha
    generalize hc : a.eval x = cv at hv
    generalize hc2 : a.eval y = cv2 at hu2
    split at hk
    · rename_i k1 l k2 c _
      cases hv; cases hu2
      split at hk
      · rename_i z hz
        obtain ⟨i, zv, hi, hz2, hv, hrun⟩ := zeroV_ok (e := e) hz
        obtain ⟨hc3, hk⟩ := bif_ok hk (by simp [RO.good]) hr
        obtain ⟨c1, c2, c3⟩ := and3 hc3
        have c1 := Nat.eq_of_beq_eq_true c1
        have c2 : 1 ≤ P.cellsOf el := Nat.le_of_ble_eq_true c2
        have c3 : c ≤ 1000000000 := Nat.le_of_ble_eq_true c3
        rw [len_eq] at c1
        obtain ⟨hc4, hk⟩ := bif_ok hk (by simp [RO.good]) hr
        obtain ⟨d1, d2⟩ := and2 hc4
        have d1 : l ≤ c := Nat.le_of_ble_eq_true d1
        have d2 : c * (P.bytesOf el + 1) ≤ 1000000000 := Nat.le_of_ble_eq_true d2
        have d3 : c * P.bytesOf el ≤ 1000000000 := by rw [Nat.mul_add] at d2; omega
        have hrep := reps_VRs (n := c * P.cellsOf el) (c := c) hv.cells (by omega) (by rw [c1])
        obtain ⟨h', e', h3, h4, h5⟩ := newCells_ok hk hr hs hf hrep el
        refine ⟨_, _, _, h3, gives_value (x := .slice (some ⟨w.heap.size, 0, none⟩) l c) (w' := w.alloc (.cells ((Array.range (c * P.cellsOf el)).map (fun i => zv.cells[i % zv.cells.size]!)) el (0, 0))) ?_ ⟨e', ?_, h5⟩⟩
        · simp only [execOp, ho, hc, hc2]
          refine run_v ?_
          have hbytes : i.bytes = P.bytesOf el := by simp [Program.bytesOf, hi]
          have hsz := info_cells hi
          have hbig : ((P.bytesOf el : Int) * (c : Int)) ≤ 1000000000 := by
            have h1 := Int.ofNat_le.2 d3
            rw [Int.natCast_mul, show ((1000000000 : Nat) : Int) = 1000000000 from rfl] at h1
            rw [Int.mul_comm]; exact h1
          have := run_make (P := P) w ty el i zv hu hi hz2 k1 k2 (l : Int) (c : Int) (by omega) (by omega) (by rw [hbytes]; omega) (by omega)
          simp only [Int.toNat_natCast, hsz] at this
          exact this
        · have := VR.sl (e := e') (b := s) (o := 0) (l := l) (c := c) h4 d1
          simpa using this
      · subst hk; cases hr
    · subst hk; cases hr
  · subst hk; cases hr
end Go.Ev
