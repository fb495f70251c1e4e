/- An evaluator of the model's code, twelfth part: the steps of an iteration, the built-in functions. -/
import Derived.Test.YtnklmadmenkdoaaGreatEvK
set_option linter.unusedVariables false
set_option linter.unusedSimpArgs false
namespace Go.Ev
variable {D : List Deferred}
variable {P : Program} {pr : Prims} {ih : Rn} {e : Env} {t : T V} {h : H} {s : Nat} {w : World} {a : Act} {r : RO} {k : K} {o : Oper}
theorem iter_at (hs : Sim e h w) {b : Nat} {m : Option Nat} {since last : Nat} {seen : List Nat} (hb : h.get .gone b = .iter m since seen last) {x : Loc} (hx : e b = some x) :
    live h b ∧ x.sh = 0 ∧ ((m = none ∧ w.heap[x.n]? = some (.mapIter none since ⟨seen⟩ last)) ∨ ∃ bm y, m = some bm ∧ e bm = some y ∧ w.heap[x.n]? = some (.mapIter (some y.n) since ⟨seen⟩ last)) := by
  have hl : live h b := live_of_cells hb (by simp)
  obtain ⟨x', o', h1, h2, h3⟩ := hs.blk b hl
  rw [hx] at h1; injection h1 with h1; subst h1
  rw [hb] at h3
  cases h3 with
  | iter0 => exact ⟨hl, rfl, .inl ⟨rfl, h2⟩⟩
  | iter g => exact ⟨hl, rfl, .inr ⟨_, _, rfl, g, h2⟩⟩
theorem oNext_ok {x : Operand} {c : Bool} (hk : oNext x c P pr ih t h s k = r) (hr : r.good) (ha : AR D e t a) (hs : Sim e h w) (hf : Free e s) (ho : o.op = .next x c) : OpOk P e s h w a o k r := by
  unfold oNext at hk
  split at hk
  · subst hk; cases hr
  · obtain ⟨v, hk, hv⟩ := opnd_ok (a := a) hk hr ha
    generalize hc : a.eval x = cv at hv
    split at hk
    · rename_i rb
      cases hv with
      | @ptr _ _ n sh sz hb =>
        split at hk
        · rename_i since seen last hbl
          obtain ⟨hl, hsh, ⟨_, hw⟩ | ⟨bm, y, hm, _, _⟩⟩ := iter_at hs hbl hb
          · simp only at hsh hw
            subst hsh
            refine ⟨_, h, s, hk, pure_ok hs hf (.tup (.cons (.bool _) .nil)) ?_⟩
            have hg := run_getObj (P := P) hw (by simp)
            simp [execOp, ho, hc, Instr.next, hg, Result.andThen]
          · cases hm
        · rename_i bm since seen last hbl
          obtain ⟨hl, hsh, ⟨hm, _⟩ | ⟨bm', y, hm, hy, hw⟩⟩ := iter_at hs hbl hb
          · cases hm
          · injection hm with hm
            subst hm
            simp only at hsh hw
            subst hsh
            have hg := run_getObj (P := P) hw (by simp)
            split at hk
            · rename_i cl hmb
              obtain ⟨hlm, _, ms, hwm, hes⟩ := map_at hs hmb hy
              cases hes
              refine ⟨_, h, s, hk, pure_ok hs hf (.tup (.cons (.bool _) .nil)) ?_⟩
              have hgm := MapKept.run_getObj_map (P := P) hwm
              simp [execOp, ho, hc, Instr.next, hg, hgm, Result.andThen, choose, Sem.run, Question.forced]
            · rename_i kx vx nx cl hmb
              obtain ⟨hlm, _, ms, hwm, hes⟩ := map_at hs hmb hy
              cases hes with
              | cons hkx hvx hnil =>
                cases hnil
                have hgm := MapKept.run_getObj_map (P := P) hwm
                split at hk
                · obtain ⟨hle, hk⟩ := bif_ok hk (by simp [RO.good]) hr
                  have hle : nx < since := Nat.le_of_ble_eq_true hle
                  refine ⟨_, _, s, hk, gives_value (x := .tuple #[.bool true, _, _]) (w' := { w with heap := w.heap.setIfInBounds n (.mapIter (some y.n) since #[nx] cl) }) ?_ ⟨e, .tup (.cons (.bool _) (.cons hkx (.cons hvx .nil))), set_post hs hf hl hb (by simp) (.iter hy)⟩⟩
                  have hset := fun o' => run_setObj (P := P) (ob' := o') hw (by simp)
                  simp [execOp, ho, hc, Instr.next, hg, hgm, Result.andThen, choose, Sem.run, Question.forced, hle, hset, Nat.not_le.2 hle]
                · rename_i m'
                  obtain ⟨hc3, hk⟩ := bif_ok hk (by simp [RO.good]) hr
                  obtain ⟨d1, d2⟩ := and2 hc3
                  have d1 := Nat.eq_of_beq_eq_true d1
                  have hk' := hk
                  subst d1
                  have d2 : m' < last := Nat.le_of_ble_eq_true d2
                  refine ⟨_, h, s, hk', pure_ok hs hf (.tup (.cons (.bool _) .nil)) ?_⟩
                  simp [execOp, ho, hc, Instr.next, hg, hgm, Result.andThen, choose, Sem.run, Question.forced, Nat.not_le.2 d2]
                · subst hk; cases hr
            · subst hk; cases hr
        · subst hk; cases hr
    · subst hk; cases hr
theorem findB_ok : ∀ {es : List (V × V × Nat)} {ms : List MapEntry} {n : Nat} {x y : V}, findB n es = some (x, y) → ER e es ms → ∃ m, ms.find? (fun m => m.born == n) = some m ∧ VR e x m.key ∧ VR e y m.val
  | _, _, n, x, y, h, .nil => by cases h
  | (x0, y0, m) :: es, _, n, x, y, h, .cons (x := kx) (y := vy) (es := ms) hk hv ht => by
    change (bif Nat.beq m n then some (x0, y0) else findB n es) = some (x, y) at h
    cases hb : Nat.beq m n with
    | true =>
      rw [hb] at h
      simp only [cond_true] at h
      injection h with h; injection h with h1 h2
      subst h1 h2
      have := Nat.eq_of_beq_eq_true hb
      subst this
      exact ⟨_, by rw [List.find?_cons_of_pos (by simp)], hk, hv⟩
    | false =>
      rw [hb] at h
      have hne := Nat.ne_of_beq_eq_false hb
      obtain ⟨m', g1, g2⟩ := findB_ok h ht
      exact ⟨m', by rw [List.find?_cons_of_neg (by simpa using hne)]; exact g1, g2⟩
theorem oEntry_pure {x : Operand} (hk : oEntry x P pr ih t h s k = r) (hr : r.good) (ha : AR D e t a) (hs : Sim e h w) (ho : o.op = .entry x) : PureOk P e s h w a o k r := by
  unfold oEntry at hk
  obtain ⟨v, hk, hv⟩ := opnd_ok (a := a) hk hr ha
  generalize hc : a.eval x = cv at hv
  split at hk
  · rename_i rb
    cases hv with
    | @ptr _ _ n sh sz hb =>
      split at hk
      · rename_i bm since seen last hbl
        obtain ⟨hl, hsh, ⟨hm, _⟩ | ⟨bm', y, hm, hy, hw⟩⟩ := iter_at hs hbl hb
        · cases hm
        · injection hm with hm
          subst hm
          simp only at hsh hw
          subst hsh
          have hg := run_getObj (P := P) hw (by simp)
          split at hk
          · rename_i stamp
            split at hk
            · rename_i es cl hmb
              obtain ⟨hlm, _, ms, hwm, hes⟩ := map_at hs hmb hy
              have hgm := MapKept.run_getObj_map (P := P) hwm
              obtain ⟨hcl, hk2⟩ := bif_ok hk (by simp [RO.good]) hr
              clear hk
              have hcl := Nat.eq_of_beq_eq_true hcl
              subst hcl
              split at hk2
              · rename_i kx vx hfind
                obtain ⟨m, g1, g2, g3⟩ := findB_ok hfind hes
                refine ⟨_, _, hk2, .tup (.cons g2 (.cons g3 .nil)), ?_⟩
                have gm := hgm
                simp [execOp, ho, hc, Instr.entry, hg, Result.andThen, gm, g1]
              · subst hk2; cases hr
            · subst hk; cases hr
          · subst hk; cases hr
      · subst hk; cases hr
  · subst hk; cases hr
/-- What is appended. -/
theorem srcCells_ok {z : Nat} {x : V} {f : Nat → List V → RO} (hk : srcCells z h x f = r) (hr : r.good) (hs : Sim e h w) {xv : Value} (hx : VR e x xv) :
    ∃ n cs xs, f n cs = r ∧ VRs e cs xs ∧ (Builtin.lenOf xv).run P w = .ok n w ∧ xs.length = n * z ∧ (∀ w', w'.heap = w.heap → ∀ m, m ≤ n → (Builtin.firstCells z m xv).run P w' = .ok ⟨xs.take (m * z)⟩ w') := by
  unfold srcCells at hk
  split at hk
  · cases hx
    exact ⟨0, [], [], hk, .nil, rfl, by simp, fun w' hw' m hm => by simp [Builtin.firstCells]⟩
  · rename_i b off l c
    have hlen : (Builtin.lenOf xv).run P w = .ok l w := by cases hx <;> rfl
    split at hk
    · rename_i t' m hb
      obtain ⟨hle, hk⟩ := bif_ok hk (by simp [RO.good]) hr
      have hle : off + l * z ≤ m := Nat.le_of_ble_eq_true hle
      cases hx with
      | @sl _ _ _ _ n sh sz hb' hlc =>
        obtain ⟨hl, cc, el, fr, hw, h1, h2, h3, h4, h5⟩ := cells_at hs hb hb'
        obtain ⟨xs, hxl, hxs, hget⟩ := rd_ok h3 hle
        refine ⟨l, _, xs, hk, hxs, hlen, hxl, fun w' hw' m' hm' => ?_⟩
        have hle2 : m' * z ≤ l * z := Nat.mul_le_mul_right z hm'
        have := run_firstCells_some (P := P) (w := w') z m' ⟨n, sh + off, none⟩ l c (xs.take (m' * z)) (by simp; omega) (fun j v hv => by
          rw [addr_add, cell_at (w := w') (by rw [hw']; exact hw)]
          rw [List.getElem?_take] at hv
          split at hv
          · exact hget j v hv
          · cases hv)
        simpa using this
      | @sl0 _ _ x0 n sh sz hb' =>
        refine ⟨0, _, [], hk, ?_, hlen, by simp, fun w' hw' m' hm' => ?_⟩
        · rw [show Nat.mul 0 z = 0 from Nat.zero_mul z]; exact .nil
        · have : m' = 0 := by omega
          subst this
          have := run_firstCells_some (P := P) (w := w') z 0 ⟨n, x0, none⟩ 0 0 [] (by simp) (fun j v hv => by simp at hv)
          simpa using this
    · obtain ⟨hz, hk⟩ := bif_ok hk (by simp [RO.good]) hr
      have hz := Nat.eq_of_beq_eq_true hz
      subst hz
      refine ⟨0, [], [], hk, .nil, hlen, by simp, fun w' hw' m' hm' => ?_⟩
      have : m' = 0 := by omega
      subst this
      cases hx <;> simp [Builtin.firstCells, loadCells, loadCellsFrom]
  · rename_i b off l z0
    have hlen : (Builtin.lenOf xv).run P w = .ok l w := by cases hx <;> rfl
    split at hk
    · rename_i t' m hb
      obtain ⟨hle, hk⟩ := bif_ok hk (by simp [RO.good]) hr
      have hle : off + l * z ≤ m := Nat.le_of_ble_eq_true hle
      cases hx with
      | @slu _ _ _ _ c n sh sz hb' hlc hcz =>
        obtain ⟨hl, cc, el, fr, hw, h1, h2, h3, h4, h5⟩ := cells_at hs hb hb'
        obtain ⟨xs, hxl, hxs, hget⟩ := rd_ok h3 hle
        refine ⟨l, _, xs, hk, hxs, hlen, hxl, fun w' hw' m' hm' => ?_⟩
        have hle2 : m' * z ≤ l * z := Nat.mul_le_mul_right z hm'
        have := run_firstCells_some (P := P) (w := w') z m' ⟨n, sh + off, none⟩ l c (xs.take (m' * z)) (by simp; omega) (fun j v hv => by
          rw [addr_add, cell_at (w := w') (by rw [hw']; exact hw)]
          rw [List.getElem?_take] at hv
          split at hv
          · exact hget j v hv
          · cases hv)
        simpa using this
      | @slu0 _ _ _ x0 n sh sz hb' hx0 =>
        refine ⟨0, _, [], hk, ?_, hlen, by simp, fun w' hw' m' hm' => ?_⟩
        · rw [show Nat.mul 0 z = 0 from Nat.zero_mul z]; exact .nil
        · have : m' = 0 := by omega
          subst this
          have := run_firstCells_some (P := P) (w := w') z 0 ⟨n, x0, none⟩ 0 0 [] (by simp) (fun j v hv => by simp at hv)
          simpa using this
    · obtain ⟨hz, hk⟩ := bif_ok hk (by simp [RO.good]) hr
      have hz := Nat.eq_of_beq_eq_true hz
      subst hz
      refine ⟨0, [], [], hk, .nil, hlen, by simp, fun w' hw' m' hm' => ?_⟩
      have : m' = 0 := by omega
      subst this
      cases hx <;> simp [Builtin.firstCells, loadCells, loadCellsFrom]
  · rename_i b
    cases hx
    obtain ⟨hz, hk⟩ := bif_ok hk (by simp [RO.good]) hr
    have hz := Nat.eq_of_beq_eq_true hz
    subst hz
    refine ⟨b.size, _, b.data.toList.map (fun c => .int .u8 c.toNat), hk, ?_, rfl, by rw [List.length_map, Nat.mul_one, Array.length_toList]; rfl, fun w' hw' m hm => ?_⟩
    · generalize b.data.toList = l
      induction l with
      | nil => exact .nil
      | cons c l ih => exact .cons (.int _ _) ih
    · simp only [Builtin.firstCells, Sem.run_pure, Nat.mul_one]
      congr 1
      apply Array.ext'
      simp [ByteArray.data_extract, List.extract_eq_take_drop]
  · subst hk; cases hr
end Go.Ev
