/- An evaluator of the model's code, eighth part: the laws of fields, indexes, composites. -/
import Derived.Test.YtnklmadmenkdoaaGreatEvG
set_option linter.unusedVariables false
set_option linter.unusedSimpArgs false
namespace Go.Ev
variable {D : List Deferred}
variable {P : Program} {pr : Prims} {ih : Rn} {e : Env} {t : T V} {h : H} {s : Nat} {w : World} {a : Act} {r : RO} {k : K} {o : Oper}
theorem info_of_cells {ty : TypeId} (h : P.cellsOf ty ≠ 0) : ∃ i, P.info? ty = some i := by
  cases hi : P.info? ty with
  | none => simp [Program.cellsOf, hi] at h
  | some i => exact ⟨i, rfl⟩
theorem oFieldAddr_pure {ty : TypeId} {x : Operand} {i : Nat} (hk : oFieldAddr ty x i P pr ih t h s k = r) (hr : r.good) (ha : AR D e t a) (hs : Sim e h w) (ho : o.op = .fieldAddr ty x i) : PureOk P e s h w a o k r := by
  unfold oFieldAddr at hk
  split at hk
  · rename_i fs hu
    split at hk
    · rename_i f hfi
      cases hz : Nat.beq (P.cellsOf f.type) 0 with
      | true => rw [hz] at hk; subst hk; cases hr
      | false =>
        rw [hz] at hk
        simp only [cond_false] at hk
        obtain ⟨i', hi'⟩ := info_of_cells (Nat.ne_of_beq_eq_false hz)
        obtain ⟨v, hk, hv⟩ := opnd_ok (a := a) hk hr ha
        generalize hc : a.eval x = cv at hv
        split at hk
        · rename_i b off
          cases hv with
          | @ptr _ _ n sh sz hb =>
            refine ⟨_, .pointer (some ⟨n, sh + (off + f.offset), none⟩), hk, .ptr hb, ?_⟩
            have hne : P.cellsOf f.type ≠ 0 := Nat.ne_of_beq_eq_false hz
            simp [execOp, ho, hc, Instr.fieldAt, run_under hu, hfi, Instr.sureAddr, fieldPlace, run_sizeOf' hi', hne, Result.andThen, addr_add, Nat.add_assoc]
        · subst hk; cases hr
    · subst hk; cases hr
  · subst hk; cases hr
theorem partV_ok {ty : TypeId} {cs : List V} {off : Nat} {f : V → RO} (hk : partV P ty cs off f = r) (hr : r.good) {xs : List Value} (hx : VRs e cs xs) :
    ∃ v y, f v = r ∧ VR e v y ∧ (part ty ⟨xs⟩ off).run P w = .ok y w := by
  unfold partV at hk
  obtain ⟨d, hd, ⟨hd2, hk⟩ | ⟨hd2, hk⟩⟩ := ifAgg_ok hk hr
  · obtain ⟨i, hi⟩ := info_of_underlying hd
    refine ⟨_, .agg ⟨(xs.drop off).take (P.cellsOf ty)⟩, hk, .agg ((hx.drop off).take _), ?_⟩
    have hex : (⟨xs⟩ : Array Value).extract off (off + P.cellsOf ty) = ⟨(xs.drop off).take (P.cellsOf ty)⟩ := by
      apply Array.ext'
      simp [List.extract_eq_take_drop]
    simp [part, run_isAgg hd, hd2, Result.andThen, run_sizeOf' hi, hex]
  · split at hk
    · rename_i v l hdr
      have hdx := hx.drop off
      rw [hdr] at hdx
      generalize hxd : xs.drop off = xd at hdx
      cases hdx with
      | cons hv hrest =>
        rename_i y ys
        refine ⟨_, y, hk, hv, ?_⟩
        have hget : xs[off]? = some y := by
          have := congrArg (fun l => l[0]?) hxd
          simpa using this
        simp [part, run_isAgg hd, hd2, Result.andThen, hget]
    · subst hk; cases hr
theorem oField_pure {ty : TypeId} {x : Operand} {i : Nat} (hk : oField ty x i P pr ih t h s k = r) (hr : r.good) (ha : AR D e t a) (hs : Sim e h w) (ho : o.op = .field ty x i) : PureOk P e s h w a o k r := by
  unfold oField at hk
  split at hk
  · rename_i fs hu
    split at hk
    · rename_i f hfi
      obtain ⟨v, hk, hv⟩ := opnd_ok (a := a) hk hr ha
      generalize hc : a.eval x = cv at hv
      split at hk
      · cases hv with
        | agg hl =>
          obtain ⟨v, y, h1, h2, h3⟩ := partV_ok (P := P) (w := w) hk hr hl
          refine ⟨v, _, h1, h2, ?_⟩
          simp [execOp, ho, hc, Instr.field, run_under hu, hfi, asAgg, h3, Result.andThen]
      · subst hk; cases hr
    · subst hk; cases hr
  · subst hk; cases hr
theorem oIndexAddr_pure {ty : TypeId} {x y : Operand} (hk : oIndexAddr ty x y P pr ih t h s k = r) (hr : r.good) (ha : AR D e t a) (hs : Sim e h w) (ho : o.op = .indexAddr ty x y) : PureOk P e s h w a o k r := by
  obtain ⟨v, hk, hv⟩ := opnd_ok (a := a) hk hr ha
  obtain ⟨u, hk, hu⟩ := opnd_ok (a := a) hk hr ha
  generalize hc : a.eval x = cv at hv
  generalize hc2 : a.eval y = cv2 at hu
  split at hk
  · rename_i n el b off kd i hty _
    obtain ⟨hc3, hk⟩ := bif_ok hk (by simp [RO.good]) hr
    obtain ⟨g1, g2⟩ := and2 hc3
    have g1 : i + 1 ≤ n := Nat.le_of_ble_eq_true g1
    have g2 := Nat.le_of_ble_eq_true g2
    obtain ⟨i', hi'⟩ := info_of_cells (P := P) (ty := el) (by omega)
    cases hu
    cases hv with
    | @ptr _ _ m sh sz hb =>
      refine ⟨_, .pointer (some ⟨m, sh + (off + i * P.cellsOf el), none⟩), hk, .ptr hb, ?_⟩
      have hlt : i < n := by omega
      simp [execOp, ho, hc, hc2, Instr.indexAt, asIntOf, run_under hty, Instr.sureAddr, run_sizeOf' hi', Result.andThen, addr_add, Nat.add_assoc, hlt]
  · rename_i el b off l c kd i hty _
    obtain ⟨hc3, hk⟩ := bif_ok hk (by simp [RO.good]) hr
    obtain ⟨g1, g2⟩ := and2 hc3
    have g1 : i + 1 ≤ l := Nat.le_of_ble_eq_true g1
    have g2 := Nat.le_of_ble_eq_true g2
    obtain ⟨i', hi'⟩ := info_of_cells (P := P) (ty := el) (by omega)
    cases hu
    have hk' := hk
    cases hv with
    | @sl _ _ _ _ m sh sz hb hl =>
      refine ⟨_, .pointer (some ⟨m, sh + (off + i * P.cellsOf el), none⟩), hk', .ptr hb, ?_⟩
      have hlt : i < l := by omega
      simp [execOp, ho, hc, hc2, Instr.indexAt, asIntOf, run_under hty, Instr.sureAddr, run_sizeOf' hi', Result.andThen, addr_add, Nat.add_assoc, hlt]
    | sl0 hb => omega
  · rename_i el b off l z kd i hty _
    obtain ⟨hc3, hk⟩ := bif_ok hk (by simp [RO.good]) hr
    obtain ⟨g1, g2⟩ := and2 hc3
    have g1 : i + 1 ≤ l := Nat.le_of_ble_eq_true g1
    have g2 := Nat.le_of_ble_eq_true g2
    obtain ⟨i', hi'⟩ := info_of_cells (P := P) (ty := el) (by omega)
    cases hu
    have hk' := hk
    cases hv with
    | @slu _ _ _ _ cc m sh sz hb hl hcz =>
      refine ⟨_, .pointer (some ⟨m, sh + (off + i * P.cellsOf el), none⟩), hk', .ptr hb, ?_⟩
      have hlt : i < l := by omega
      simp [execOp, ho, hc, hc2, Instr.indexAt, asIntOf, run_under hty, Instr.sureAddr, run_sizeOf' hi', Result.andThen, addr_add, Nat.add_assoc, hlt]
    | slu0 hb hx0 => omega
  · subst hk; cases hr
theorem oIndex_pure {ty : TypeId} {x y : Operand} (hk : oIndex ty x y P pr ih t h s k = r) (hr : r.good) (ha : AR D e t a) (hs : Sim e h w) (ho : o.op = .index ty x y) : PureOk P e s h w a o k r := by
  obtain ⟨v, hk, hv⟩ := opnd_ok (a := a) hk hr ha
  obtain ⟨u, hk, hu⟩ := opnd_ok (a := a) hk hr ha
  generalize hc : a.eval x = cv at hv
  generalize hc2 : a.eval y = cv2 at hu
  split at hk
  · rename_i n el cs kd i hty _
    obtain ⟨hc3, hk⟩ := bif_ok hk (by simp [RO.good]) hr
    have g1 : i + 1 ≤ n := Nat.le_of_ble_eq_true hc3
    cases hu
    cases hv with
    | agg hl =>
      obtain ⟨v, y, h1, h2, h3⟩ := partV_ok (P := P) (w := w) hk hr hl
      refine ⟨v, _, h1, h2, ?_⟩
      have hlt : i < n := by omega
      have hsz : ∃ i', P.info? el = some i' := by
        unfold partV at hk
        obtain ⟨d, hd, _⟩ := ifAgg_ok hk hr
        exact info_of_underlying hd
      obtain ⟨i', hi'⟩ := hsz
      simp only [Nat.mul_eq] at h3
      simp [execOp, ho, hc, hc2, Instr.index, asIntOf, run_under hty, run_sizeOf' hi', Result.andThen, hlt, h3]
  · rename_i b kd i hty _
    cases hu; cases hv
    split at hk
    · rename_i c l hdr
      refine ⟨_, _, hk, (.int _ _), ?_⟩
      have hget : b[i]? = some c := by
        have h0 : b.data.toList[i]? = some c := by
          have := congrArg (fun l => l[0]?) hdr
          simpa using this
        rw [Array.getElem?_toList] at h0
        have hlt : i < b.data.size := (Array.getElem?_eq_some_iff.1 h0).1
        have hv := (Array.getElem?_eq_some_iff.1 h0).2
        rw [getElem?_pos b i hlt]
        exact congrArg some hv
      simp [execOp, ho, hc, hc2, Instr.index, asIntOf, run_under hty, Result.andThen, hget]
    · subst hk; cases hr
  · subst hk; cases hr
/-- Parts put into cells. -/
theorem foldl_putArr (off : Nat) : ∀ (l : List Value) (n : Nat) (c : Array Value), (l.zipIdx n).foldl (fun cs (p : Value × Nat) => cs.setIfInBounds (off + p.2) p.1) c = putArr c (off + n) l
  | [], n, c => rfl
  | v :: l, n, c => by
    simp only [List.zipIdx_cons, List.foldl_cons, putArr]
    rw [foldl_putArr off l (n + 1)]; rfl
theorem splice_VRs {l cs : List V} {xs ys : List Value} {off : Nat} (hl : VRs e l xs) (hc : VRs e cs ys) (hle : off + cs.length ≤ l.length) : VRs e (splice l cs off) (putArr ⟨xs⟩ off ys).toList := by
  have h1 := hl.length
  have h2 := hc.length
  have : (putArr ⟨xs⟩ off ys).toList = xs.take off ++ ys ++ xs.drop (off + ys.length) := by
    apply List.ext_getElem?
    intro i
    rw [Array.getElem?_toList, putArr_get ys ⟨xs⟩ off i (by simp; omega)]
    by_cases hi : i < off
    · rw [if_neg (by omega), List.append_assoc, List.getElem?_append_left (by simp; omega), List.getElem?_take_of_lt hi]; simp
    · by_cases hi2 : i < off + ys.length
      · rw [if_pos (by omega), List.append_assoc, List.getElem?_append_right (by simp; omega), List.getElem?_append_left (by simp; omega)]
        congr 1; simp; omega
      · rw [if_neg (by omega), List.append_assoc, List.getElem?_append_right (by simp; omega), List.getElem?_append_right (by simp; omega), List.getElem?_drop]
        simp
        congr 1; omega
  rw [this]
  unfold splice
  rw [len_eq, h2]
  exact ((hl.take off).append hc).append (hl.drop _)
theorem fillV_ok {place : Nat → Option (Nat × Nat)} : ∀ {l : List (Nat × V)} {cells : List V} {f : List V → RO} (hk : fillV place l cells f = r) (hr : r.good) {xs : List Value} {parts : List (Nat × Value)} (hc : VRs e cells xs)
    (hp : l.map (·.1) = parts.map (·.1)) (hv : VRs e (l.map (·.2)) (parts.map (·.2))), ∃ cs ys, f cs = r ∧ VRs e cs ys ∧ Instr.fill place ⟨xs⟩ parts = some ⟨ys⟩ ∧ cs.length = cells.length
  | [], cells, f, hk, hr, xs, parts, hc, hp, hv => by
    cases parts with
    | nil => exact ⟨cells, xs, hk, hc, rfl, rfl⟩
    | cons p q => cases hp
  | p :: l, cells, f, hk, hr, xs, parts, hc, hp, hv => by
    cases parts with
    | nil => cases hp
    | cons q parts =>
      obtain ⟨i, v⟩ := p
      obtain ⟨i', x⟩ := q
      simp only [List.map_cons, List.cons.injEq] at hp
      obtain ⟨rfl, hp⟩ := hp
      cases hv with
      | cons hv hrest =>
        change (match place i with
          | some (off, z) => bif Nat.beq (len v.cells) z && Nat.ble (Nat.add off (len v.cells)) (len cells) then fillV place l (splice cells v.cells off) f else .err 42
          | none => .err 43) = r at hk
        split at hk
        · rename_i off z hpl
          obtain ⟨hc2, hk⟩ := bif_ok hk (by simp [RO.good]) hr
          obtain ⟨g1, g2⟩ := and2 hc2
          have g1 := Nat.eq_of_beq_eq_true g1
          have g2 : off + len v.cells ≤ len cells := Nat.le_of_ble_eq_true g2
          rw [len_eq, len_eq] at g2
          rw [len_eq] at g1
          have hvc := hv.cells
          have hvl := hvc.length
          have hcl := hc.length
          have hsp := splice_VRs hc hvc g2
          obtain ⟨cs, ys, h1, h2, h3, h4⟩ := fillV_ok hk hr hsp hp hrest
          have hsl : (splice cells v.cells off).length = cells.length := by
            unfold splice; rw [len_eq]; simp; omega
          refine ⟨cs, ys, h1, h2, ?_, by rw [h4, hsl]⟩
          simp only [Instr.fill, hpl]
          have e1 : x.cells.size = z := by rw [← g1, hvl]; simp
          rw [if_neg (by
            simp only [e1, ne_eq, not_true_eq_false, false_or, Bool.or_eq_true, decide_eq_true_eq]
            simp
            have : x.cells.size = v.cells.length := by rw [hvl]; simp
            rw [e1] at this
            omega)]
          rw [← Array.foldl_toList, Array.toList_zipIdx]
          rw [foldl_putArr off x.cells.toList 0 ⟨xs⟩]
          simpa using h3
        · subst hk; cases hr
end Go.Ev
