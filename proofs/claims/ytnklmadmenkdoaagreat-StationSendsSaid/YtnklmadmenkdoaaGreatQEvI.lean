/- An evaluator of the model's code, seventh part: the laws of places, structs, slices. An evaluator of the model's code, eighth part: the laws of fields, indexes, composites. An evaluator of the model's code, ninth part: the laws of composites, makes, and maps. -/
import Derived.Test.YtnklmadmenkdoaaGreatQEvF
import Derived.Laws.MakeOwn
set_option linter.unusedVariables false
set_option linter.unusedSimpArgs false
namespace Go.Ev
variable {D : List Deferred}
variable {P : Program} {pr : Prims} {ih : Rn} {e : Env} {t : T V} {h : H} {s : Nat} {w : World} {a : Act} {r : RO} {k : K} {o : Oper}
theorem oMakeIface_pure {ty : TypeId} {x : Operand} (hk : oMakeIface ty x P pr ih t h s k = r) (hr : r.good) (ha : AR D e t a) (hs : Sim e h w) (ho : o.op = .makeInterface ty x) : PureOk P e s h w a o k r := by
  unfold oMakeIface at hk
  split at hk
  · subst hk; cases hr
  · rename_i d hni hd
    obtain ⟨v, hk, hv⟩ := opnd_ok (a := a) hk hr ha
    refine ⟨_, _, hk, (.ifc hv), ?_⟩
    have : (Instr.makeInterface ty (a.eval x)).run P w = .ok (.iface ty (a.eval x)) w := by
      simp only [Instr.makeInterface, Sem.run_bind, run_under hd, Result.andThen]
      cases d <;> first | rfl | exact absurd rfl (hni _)
    simp [execOp, ho, this, Result.andThen]
  · subst hk; cases hr
theorem oMakeFunc_pure {f : Fn} {first caps : Array Operand} (hk : oMakeFunc f first caps P pr ih t h s k = r) (hr : r.good) (ha : AR D e t a) (hs : Sim e h w) (ho : o.op = .makeFunc f first caps) : PureOk P e s h w a o k r := by
  unfold oMakeFunc at hk
  split at hk
  · rename_i n hfirst
    obtain ⟨vs, hk, hvs⟩ := opnds_ok (a := a) hk hr ha
    have h0 : first = #[] := by cases first; simpa using hfirst
    subst h0
    refine ⟨_, _, hk, (.fn hvs), ?_⟩
    have hm : caps.map a.eval = ⟨caps.toList.map a.eval⟩ := by apply Array.ext'; simp
    simp [execOp, ho, Instr.makeFunc, hm]
  · rename_i n x hfirst
    split at hk
    · rename_i hcaps
      obtain ⟨v, hk, hv⟩ := opnd_ok (a := a) hk hr ha
      refine ⟨_, _, hk, .bfn hv, ?_⟩
      have h1 : first = #[x] := by apply Array.ext'; simpa using hfirst
      have h2 : caps = #[] := by apply Array.ext'; simpa using hcaps
      subst h1 h2
      simp [execOp, ho, Instr.makeFunc, Result.andThen]
    · subst hk; cases hr
  · rename_i nm x hfirst
    split at hk
    · rename_i hcaps
      obtain ⟨v, hk, hv⟩ := opnd_ok (a := a) hk hr ha
      refine ⟨_, _, hk, .mfn hv, ?_⟩
      have h1 : first = #[x] := by apply Array.ext'; simpa using hfirst
      have h2 : caps = #[] := by apply Array.ext'; simpa using hcaps
      subst h1 h2
      simp [execOp, ho, Instr.makeFunc, Result.andThen]
    · subst hk; cases hr
  · subst hk; cases hr
theorem oMakeMap_ok {ty : TypeId} {x : Option Operand} (hk : oMakeMap ty x P pr ih t h s k = r) (hr : r.good) (ha : AR D e t a) (hs : Sim e h w) (hf : Free e s) (ho : o.op = .makeMap ty x) : OpOk P e s h w a o k r := by
  unfold oMakeMap at hk
  split at hk
  · obtain ⟨h', e', h1, h2, h3⟩ := newB_ok (sz := 0) (ob := .map #[] 0) hk hr hs hf (by simp) (fun e' hle => .map .nil)
    refine ⟨_, _, _, h1, gives_value (x := .map (some w.heap.size)) (w' := w.alloc (.map #[] 0)) ?_ ⟨e', .map h2, h3⟩⟩
    simp [execOp, ho, Instr.makeMap, Result.andThen, run_newObj]
  · subst hk; cases hr
theorem bound_ok {x : Option Operand} {d : Nat} {f : Nat → RO} (hk : bound t x d f = r) (hr : r.good) (ha : AR D e t a) :
    ∃ n, f n = r ∧ ((x = none ∧ n = d) ∨ ∃ y kd, x = some y ∧ a.eval y = .int kd (n : Int)) := by
  cases x with
  | none => exact ⟨d, hk, .inl ⟨rfl, rfl⟩⟩
  | some y =>
    simp only [bound] at hk
    obtain ⟨v, hk, hv⟩ := opnd_ok (a := a) hk hr ha
    generalize hc : a.eval y = cv at hv
    split at hk
    · cases hv; exact ⟨_, hk, .inr ⟨y, _, rfl, hc⟩⟩
    · subst hk; cases hr
theorem run_sliceBound {kd : IntKind} {n y : Nat} {c : BoundsCode} (h : n ≤ y) : (Instr.sliceBound (.int kd (n : Int)) y c).run P w = .ok n w := by
  simp [Instr.sliceBound, asIntOf, Result.andThen, h]
/-- The bounds of a slice expression. -/
theorem run_sliceBounds {isS : Bool} {len cap : Nat} {lo hi mx : Option Operand} {ln hn m : Nat} (hm : (mx = none ∧ m = cap) ∨ ∃ y kd, mx = some y ∧ a.eval y = .int kd (m : Int))
    (hh : (hi = none ∧ hn = len) ∨ ∃ y kd, hi = some y ∧ a.eval y = .int kd (hn : Int)) (hl : (lo = none ∧ ln = 0) ∨ ∃ y kd, lo = some y ∧ a.eval y = .int kd (ln : Int))
    (h1 : ln ≤ hn) (h2 : hn ≤ m) (h3 : m ≤ cap) (h4 : mx ≠ none → hi ≠ none) :
    (Instr.sliceBounds isS len cap (lo.map a.eval) (hi.map a.eval) (mx.map a.eval)).run P w = .ok (ln, hn, m) w := by
  rcases hm with ⟨rfl, rfl⟩ | ⟨ym, km, rfl, hm⟩
  · rcases hh with ⟨rfl, rfl⟩ | ⟨yh, kh, rfl, hh⟩ <;> rcases hl with ⟨rfl, rfl⟩ | ⟨yl, kl, rfl, hl⟩ <;>
      simp_all [Instr.sliceBounds, Result.andThen, run_sliceBound]
  · rcases hh with ⟨rfl, rfl⟩ | ⟨yh, kh, rfl, hh⟩
    · exact absurd rfl (h4 (by simp))
    · rcases hl with ⟨rfl, rfl⟩ | ⟨yl, kl, rfl, hl⟩ <;> simp_all [Instr.sliceBounds, Result.andThen, run_sliceBound]
theorem info_cells {ty : TypeId} {i : TypeInfo} (h : P.info? ty = some i) : i.size = P.cellsOf ty := by simp [Program.cellsOf, h]
theorem run_sliceSl {ty el : TypeId} {b : Option Addr} {len cap ln hn m : Nat} {lo hi mx : Option Value} (hu : P.underlying ty = some (.slice el)) (hi' : ∃ i, P.info? el = some i)
    (hb : (Instr.sliceBounds true len cap lo hi mx).run P w = .ok (ln, hn, m) w) :
    (Instr.sliceAt ty (.slice b len cap) lo hi mx).run P w = .ok (.slice (if m = ln then b else b.map (·.add (ln * P.cellsOf el))) (hn - ln) (m - ln)) w := by
  obtain ⟨i, hi'⟩ := hi'
  simp [Instr.sliceAt, Instr.slice, run_under hu, Result.andThen, hb, run_sizeOf' hi']
theorem hiOk_ok {mx hi : Option Operand} (h : hiOk mx hi = true) : mx ≠ none → hi ≠ none := by
  intro h1 h2; subst h2; cases mx with
  | none => exact h1 rfl
  | some _ => cases h
theorem and3 {a b c : Bool} (h : (a && b && c) = true) : a = true ∧ b = true ∧ c = true := by simpa [Bool.and_eq_true, and_assoc] using h
theorem and2 {a b : Bool} (h : (a && b) = true) : a = true ∧ b = true := by simpa [Bool.and_eq_true] using h
theorem oSlice_pure {ty : TypeId} {x : Operand} {lo hi mx : Option Operand} (hk : oSlice ty x lo hi mx P pr ih t h s k = r) (hr : r.good) (ha : AR D e t a) (hs : Sim e h w) (ho : o.op = .slice ty x lo hi mx) : PureOk P e s h w a o k r := by
  obtain ⟨v, hk, hv⟩ := opnd_ok (a := a) hk hr ha
  generalize hc : a.eval x = cv at hv
  split at hk
  · rename_i b hu
    cases hv
    split at hk
    · rename_i hmx
      obtain ⟨hn, hk, hh⟩ := bound_ok (a := a) hk hr ha
      obtain ⟨ln, hk, hl⟩ := bound_ok (a := a) hk hr ha
      obtain ⟨hc2, hk⟩ := bif_ok hk (by simp [RO.good]) hr
      obtain ⟨g1, g2⟩ := and2 hc2
      have hb := run_sliceBounds (P := P) (w := w) (isS := false) (mx := none) (m := b.size) (cap := b.size) (a := a) (.inl ⟨rfl, rfl⟩) hh hl (Nat.le_of_ble_eq_true g1) (Nat.le_of_ble_eq_true g2) (Nat.le_refl _) (by simp)
      refine ⟨_, _, hk, (.str _), ?_⟩
      simp only [Option.map_none] at hb
      simp [execOp, ho, hc, Instr.sliceAt, Instr.slice, run_under hu, Result.andThen, hb, Option.map_none]
    · subst hk; cases hr
  · rename_i el hu
    cases hv
    split at hk
    · rename_i hmx
      obtain ⟨hn, hk, hh⟩ := bound_ok (a := a) hk hr ha
      obtain ⟨ln, hk, hl⟩ := bound_ok (a := a) hk hr ha
      obtain ⟨hc2, hk⟩ := bif_ok hk (by simp [RO.good]) hr
      obtain ⟨g1, g2⟩ := and2 hc2
      have g1 := Nat.eq_of_beq_eq_true g1
      have g2 := Nat.eq_of_beq_eq_true g2
      subst g1 g2
      split at hk
      case h_2 => subst hk; cases hr
      rename_i i hi'
      have hb := run_sliceBounds (P := P) (w := w) (isS := true) (mx := none) (m := 0) (cap := 0) (len := 0) (a := a) (.inl ⟨rfl, rfl⟩) hh hl (Nat.le_refl _) (Nat.le_refl _) (Nat.le_refl _) (by simp)
      refine ⟨_, _, hk, .nils, ?_⟩
      have := run_sliceSl (b := none) hu ⟨i, hi'⟩ hb
      simp only [execOp, ho, hc]
      refine run_v ?_
      simpa using this
    · subst hk; cases hr
  · rename_i el b off l c hu
    obtain ⟨m, hk, hm⟩ := bound_ok (a := a) hk hr ha
    obtain ⟨hn, hk, hh⟩ := bound_ok (a := a) hk hr ha
    obtain ⟨ln, hk, hl⟩ := bound_ok (a := a) hk hr ha
    obtain ⟨hc2, hk⟩ := bif_ok hk (by simp [RO.good]) hr
    obtain ⟨g1, g2, g3⟩ := and3 hc2
    have g1 := Nat.le_of_ble_eq_true g1
    have g2 := Nat.le_of_ble_eq_true g2
    have g3 := Nat.le_of_ble_eq_true g3
    obtain ⟨hc3, hk⟩ := bif_ok hk (by simp [RO.good]) hr
    have h4 := hiOk_ok hc3
    split at hk
    case h_2 => subst hk; cases hr
    rename_i i hi'
    have hb := fun (b0 : Option Addr) => run_sliceSl (P := P) (w := w) (b := b0) hu ⟨i, hi'⟩ (run_sliceBounds (P := P) (w := w) (isS := true) (mx := mx) (m := m) (cap := c) (len := l) (a := a) hm hh hl g1 g2 g3 h4)
    cases hq : Nat.beq m ln with
    | true =>
      rw [hq] at hk
      have hq := Nat.eq_of_beq_eq_true hq
      have hk' := hk
      have hz : hn - ln = 0 ∧ m - ln = 0 := by omega
      cases hv with
      | sl hb' hlc =>
        rename_i n sh sz
        refine ⟨_, .slice (some ⟨n, sh + off, none⟩) 0 0, hk, .sl0 hb', ?_⟩
        simp only [execOp, ho, hc]
        refine run_v ?_
        rw [hb, if_pos hq, hz.1, hz.2]
      | @sl0 _ _ x0 n sh sz hb' =>
        refine ⟨_, .slice (some ⟨n, x0, none⟩) 0 0, hk', .sl0 hb', ?_⟩
        simp only [execOp, ho, hc]
        refine run_v ?_
        rw [hb, if_pos hq, hz.1, hz.2]
    | false =>
      rw [hq] at hk
      have hq := Nat.ne_of_beq_eq_false hq
      cases hv with
      | sl hb' hlc =>
        rename_i n sh sz
        refine ⟨_, .slice (some ⟨n, sh + (off + ln * P.cellsOf el), none⟩) (hn - ln) (m - ln), hk, .sl hb' (by show hn - ln ≤ m - ln; omega), ?_⟩
        simp only [execOp, ho, hc]
        refine run_v ?_
        rw [hb, if_neg hq]; simp [addr_add, Nat.add_assoc]
      | sl0 hb' => omega
  · rename_i el b off l z hu
    cases mx with
    | none =>
      dsimp only at hk
      obtain ⟨hn, hk, hh⟩ := bound_ok (a := a) hk hr ha
      obtain ⟨ln, hk, hl⟩ := bound_ok (a := a) hk hr ha
      obtain ⟨hc2, hk⟩ := bif_ok hk (by simp [RO.good]) hr
      obtain ⟨g1, g2, g3⟩ := and3 hc2
      have g1 := Nat.le_of_ble_eq_true g1
      have g2 := Nat.le_of_ble_eq_true g2
      have g3 := Nat.eq_of_beq_eq_true g3
      split at hk
      case h_2 => subst hk; cases hr
      rename_i i hi'
      have hk' := hk
      cases hv with
      | slu hb' hlc hcz =>
        rename_i c n sh sz
        have hb := run_sliceSl (P := P) (w := w) (b := some ⟨n, sh + off, none⟩) hu ⟨i, hi'⟩ (run_sliceBounds (P := P) (w := w) (isS := true) (mx := none) (m := c) (cap := c) (len := l) (a := a) (.inl ⟨rfl, rfl⟩) hh hl g1 (by omega) (Nat.le_refl _) (by simp))
        by_cases hq : c = ln
        · refine ⟨_, .slice (some ⟨n, sh + off, none⟩) 0 0, hk, ?_, ?_⟩
          rotate_left
          · simp only [execOp, ho, hc]
            refine run_v ?_
            simp only [Option.map_none] at hb
            rw [Option.map_none, hb, if_pos hq, show hn - ln = 0 by omega, show c - ln = 0 by omega]
          · have : Nat.sub hn ln = 0 := by show hn - ln = 0; omega
            rw [this]; exact .slu0 hb' (by show sz ≤ sh + (off + ln * z); rw [← hq]; omega)
        · refine ⟨_, .slice (some ⟨n, sh + (off + ln * z), none⟩) (hn - ln) (c - ln), hk, .slu hb' (by show hn - ln ≤ c - ln; omega) ?_, ?_⟩
          rotate_left
          · simp only [execOp, ho, hc]
            refine run_v ?_
            simp only [Option.map_none] at hb
            rw [Option.map_none, hb, if_neg hq]; simp [addr_add, Nat.add_assoc, g3]
          · show sh + (off + ln * z) + (c - ln) * z = sz
            have hlc' : ln ≤ c := by omega
            have := Nat.sub_mul c ln z
            have h2 : ln * z ≤ c * z := Nat.mul_le_mul_right z hlc'
            omega
      | @slu0 _ _ _ x0 n sh sz hb' hx0 =>
        have hz : ln = 0 ∧ hn = 0 := by omega
        have hv0 : V.slu b (Nat.add off (Nat.mul ln z)) (Nat.sub hn ln) z = V.slu b (Nat.add off (Nat.mul ln z)) 0 z := by rw [show Nat.sub hn ln = 0 from by show hn - ln = 0; omega]
        rw [hv0] at hk'
        obtain ⟨rfl, rfl⟩ := hz
        have hb := run_sliceSl (P := P) (w := w) (b := some ⟨n, x0, none⟩) hu ⟨i, hi'⟩ (run_sliceBounds (P := P) (w := w) (isS := true) (mx := none) (m := 0) (cap := 0) (len := 0) (a := a) (.inl ⟨rfl, rfl⟩) hh hl (Nat.le_refl _) (Nat.le_refl _) (Nat.le_refl _) (by simp))
        refine ⟨_, .slice (some ⟨n, x0, none⟩) 0 0, hk', .slu0 hb' (by show sz ≤ sh + (off + 0 * z); omega), ?_⟩
        simp only [execOp, ho, hc]
        refine run_v ?_
        simp only [Option.map_none] at hb
        rw [Option.map_none, hb]; simp
    | some y0 =>
      dsimp only at hk
      obtain ⟨m, hk, hm⟩ := bound_ok (a := a) hk hr ha
      obtain ⟨hn, hk, hh⟩ := bound_ok (a := a) hk hr ha
      obtain ⟨ln, hk, hl⟩ := bound_ok (a := a) hk hr ha
      obtain ⟨hc2, hk⟩ := bif_ok hk (by simp [RO.good]) hr
      obtain ⟨g1, g2, g3⟩ := and3 hc2
      have g1 := Nat.le_of_ble_eq_true g1
      have g2 := Nat.le_of_ble_eq_true g2
      have g3 := Nat.le_of_ble_eq_true g3
      obtain ⟨hc3, hk⟩ := bif_ok hk (by simp [RO.good]) hr
      have h4 := hiOk_ok hc3
      split at hk
      case h_2 => subst hk; cases hr
      rename_i i hi'
      have hm' : ∀ c0, (some y0 = none ∧ m = c0) ∨ ∃ y kd, some y0 = some y ∧ a.eval y = .int kd (m : Int) := fun c0 => by
        rcases hm with ⟨h0, _⟩ | h0
        · cases h0
        · exact .inr h0
      have hb := fun (b0 : Option Addr) (c0 : Nat) (hc0 : m ≤ c0) => run_sliceSl (P := P) (w := w) (b := b0) hu ⟨i, hi'⟩ (run_sliceBounds (P := P) (w := w) (isS := true) (mx := some y0) (m := m) (cap := c0) (len := l) (a := a) (hm' c0) hh hl g1 g2 hc0 h4)
      cases hq : Nat.beq m ln with
      | true =>
        rw [hq] at hk
        have hq := Nat.eq_of_beq_eq_true hq
        have hk' := hk
        have hz : hn - ln = 0 ∧ m - ln = 0 := by omega
        cases hv with
        | slu hb' hlc hcz =>
          rename_i c0 n sh sz
          refine ⟨_, .slice (some ⟨n, sh + off, none⟩) 0 0, hk, .sl0 hb', ?_⟩
          simp only [execOp, ho, hc]
          refine run_v ?_
          rw [hb _ c0 (by omega), if_pos hq, hz.1, hz.2]
        | @slu0 _ _ _ x0 n sh sz hb' hx0 =>
          refine ⟨_, .slice (some ⟨n, x0, none⟩) 0 0, hk', .sl0 hb', ?_⟩
          simp only [execOp, ho, hc]
          refine run_v ?_
          rw [hb _ 0 (by omega), if_pos hq, hz.1, hz.2]
      | false =>
        rw [hq] at hk
        have hq := Nat.ne_of_beq_eq_false hq
        cases hv with
        | slu hb' hlc hcz =>
          rename_i c0 n sh sz
          refine ⟨_, .slice (some ⟨n, sh + (off + ln * P.cellsOf el), none⟩) (hn - ln) (m - ln), hk, .sl hb' (by show hn - ln ≤ m - ln; omega), ?_⟩
          simp only [execOp, ho, hc]
          refine run_v ?_
          rw [hb _ c0 (by omega), if_neg hq]; simp [addr_add, Nat.add_assoc]
        | slu0 hb' hx0 => omega
  · rename_i n el b off hu
    split at hk
    · obtain ⟨hn, hk, hh⟩ := bound_ok (a := a) hk hr ha
      obtain ⟨ln, hk, hl⟩ := bound_ok (a := a) hk hr ha
      obtain ⟨hc2, hk⟩ := bif_ok hk (by simp [RO.good]) hr
      obtain ⟨g1, g2, g3⟩ := and3 hc2
      have g1 := Nat.le_of_ble_eq_true g1
      have g2 := Nat.le_of_ble_eq_true g2
      have g3 : n ≠ ln := fun hq => by
        have : Nat.beq n ln = true := by rw [hq]; exact Nat.beq_refl ln
        rw [this] at g3; cases g3
      split at hk
      case h_2 => subst hk; cases hr
      rename_i i hi'
      cases hv with
      | @ptr _ _ n' sh sz hb' =>
        have hb := run_sliceBounds (P := P) (w := w) (isS := false) (mx := none) (m := n) (cap := n) (len := n) (a := a) (.inl ⟨rfl, rfl⟩) hh hl g1 g2 (Nat.le_refl _) (by simp)
        refine ⟨_, .slice (some ⟨n', sh + (off + ln * P.cellsOf el), none⟩) (hn - ln) (n - ln), hk, .sl hb' (by show hn - ln ≤ n - ln; omega), ?_⟩
        simp only [execOp, ho, hc]
        refine run_v ?_
        simp only [Option.map_none] at hb
        simp [Instr.sliceAt, run_under hu, Instr.sureAddr, Result.andThen, hb, run_sizeOf' hi', g3, Addr.add, Nat.add_assoc]
    · subst hk; cases hr
  · subst hk; cases hr
end Go.Ev
namespace Go.Ev
variable {D : List Deferred}
variable {P : Program} {pr : Prims} {ih : Rn} {e : Env} {t : T V} {h : H} {s : Nat} {w : World} {a : Act} {r : RO} {k : K} {o : Oper}
theorem info_of_cells {ty : TypeId} (h : P.cellsOf ty ≠ 0) : ∃ i, P.info? ty = some i := by
  cases hi : P.info? ty with
  | none => simp [Program.cellsOf, hi] at h
  | some i => exact ⟨i, rfl⟩
theorem oFieldAddr_pure {ty : TypeId} {x : Operand} {i : Nat} (hk : oFieldAddr ty x i P pr ih t h s k = r) (hr : r.good) (ha : AR D e t a) (hs : Sim e h w) (ho : o.op = .fieldAddr ty x i) : PureOk P e s h w a o k r := by
  unfold oFieldAddr at hk
  split at hk
  · rename_i fs hu
    split at hk
    · rename_i f hfi
      cases hz : Nat.beq (P.cellsOf f.type) 0 with
      | true => rw [hz] at hk; subst hk; cases hr
      | false =>
        rw [hz] at hk
        simp only [cond_false] at hk
        obtain ⟨i', hi'⟩ := info_of_cells (Nat.ne_of_beq_eq_false hz)
        obtain ⟨v, hk, hv⟩ := opnd_ok (a := a) hk hr ha
        generalize hc : a.eval x = cv at hv
        split at hk
        · rename_i b off
          cases hv with
          | @ptr _ _ n sh sz hb =>
            refine ⟨_, .pointer (some ⟨n, sh + (off + f.offset), none⟩), hk, .ptr hb, ?_⟩
            have hne : P.cellsOf f.type ≠ 0 := Nat.ne_of_beq_eq_false hz
            simp [execOp, ho, hc, Instr.fieldAt, run_under hu, hfi, Instr.sureAddr, fieldPlace, run_sizeOf' hi', hne, Result.andThen, addr_add, Nat.add_assoc]
        · subst hk; cases hr
    · subst hk; cases hr
  · subst hk; cases hr
theorem partV_ok {ty : TypeId} {cs : List V} {off : Nat} {f : V → RO} (hk : partV P ty cs off f = r) (hr : r.good) {xs : List Value} (hx : VRs e cs xs) :
    ∃ v y, f v = r ∧ VR e v y ∧ (part ty ⟨xs⟩ off).run P w = .ok y w := by
  unfold partV at hk
  obtain ⟨d, hd, ⟨hd2, hk⟩ | ⟨hd2, hk⟩⟩ := ifAgg_ok hk hr
  · obtain ⟨i, hi⟩ := info_of_underlying hd
    refine ⟨_, .agg ⟨(xs.drop off).take (P.cellsOf ty)⟩, hk, .agg ((hx.drop off).take _), ?_⟩
    have hex : (⟨xs⟩ : Array Value).extract off (off + P.cellsOf ty) = ⟨(xs.drop off).take (P.cellsOf ty)⟩ := by
      apply Array.ext'
      simp [List.extract_eq_take_drop]
    simp [part, run_isAgg hd, hd2, Result.andThen, run_sizeOf' hi, hex]
  · split at hk
    · rename_i v l hdr
      have hdx := hx.drop off
      rw [hdr] at hdx
      generalize hxd : xs.drop off = xd at hdx
      cases hdx with
      | cons hv hrest =>
        rename_i y ys
        refine ⟨_, y, hk, hv, ?_⟩
        have hget : xs[off]? = some y := by
          have := congrArg (fun l => l[0]?) hxd
          simpa using this
        simp [part, run_isAgg hd, hd2, Result.andThen, hget]
    · subst hk; cases hr
theorem oField_pure {ty : TypeId} {x : Operand} {i : Nat} (hk : oField ty x i P pr ih t h s k = r) (hr : r.good) (ha : AR D e t a) (hs : Sim e h w) (ho : o.op = .field ty x i) : PureOk P e s h w a o k r := by
  unfold oField at hk
  split at hk
  · rename_i fs hu
    split at hk
    · rename_i f hfi
      obtain ⟨v, hk, hv⟩ := opnd_ok (a := a) hk hr ha
      generalize hc : a.eval x = cv at hv
      split at hk
      · cases hv with
        | agg hl =>
          obtain ⟨v, y, h1, h2, h3⟩ := partV_ok (P := P) (w := w) hk hr hl
          refine ⟨v, _, h1, h2, ?_⟩
          simp [execOp, ho, hc, Instr.field, run_under hu, hfi, asAgg, h3, Result.andThen]
      · subst hk; cases hr
    · subst hk; cases hr
  · subst hk; cases hr
theorem oIndexAddr_pure {ty : TypeId} {x y : Operand} (hk : oIndexAddr ty x y P pr ih t h s k = r) (hr : r.good) (ha : AR D e t a) (hs : Sim e h w) (ho : o.op = .indexAddr ty x y) : PureOk P e s h w a o k r := by
  obtain ⟨v, hk, hv⟩ := opnd_ok (a := a) hk hr ha
  obtain ⟨u, hk, hu⟩ := opnd_ok (a := a) hk hr ha
  generalize hc : a.eval x = cv at hv
  generalize hc2 : a.eval y = cv2 at hu
  split at hk
  · rename_i n el b off kd i hty _
    obtain ⟨hc3, hk⟩ := bif_ok hk (by simp [RO.good]) hr
    obtain ⟨g1, g2⟩ := and2 hc3
    have g1 : i + 1 ≤ n := Nat.le_of_ble_eq_true g1
    have g2 := Nat.le_of_ble_eq_true g2
    obtain ⟨i', hi'⟩ := info_of_cells (P := P) (ty := el) (by omega)
    cases hu
    cases hv with
    | @ptr _ _ m sh sz hb =>
      refine ⟨_, .pointer (some ⟨m, sh + (off + i * P.cellsOf el), none⟩), hk, .ptr hb, ?_⟩
      have hlt : i < n := by omega
      simp [execOp, ho, hc, hc2, Instr.indexAt, asIntOf, run_under hty, Instr.sureAddr, run_sizeOf' hi', Result.andThen, addr_add, Nat.add_assoc, hlt]
  · rename_i el b off l c kd i hty _
    obtain ⟨hc3, hk⟩ := bif_ok hk (by simp [RO.good]) hr
    obtain ⟨g1, g2⟩ := and2 hc3
    have g1 : i + 1 ≤ l := Nat.le_of_ble_eq_true g1
    have g2 := Nat.le_of_ble_eq_true g2
    obtain ⟨i', hi'⟩ := info_of_cells (P := P) (ty := el) (by omega)
    cases hu
    have hk' := hk
    cases hv with
    | @sl _ _ _ _ m sh sz hb hl =>
      refine ⟨_, .pointer (some ⟨m, sh + (off + i * P.cellsOf el), none⟩), hk', .ptr hb, ?_⟩
      have hlt : i < l := by omega
      simp [execOp, ho, hc, hc2, Instr.indexAt, asIntOf, run_under hty, Instr.sureAddr, run_sizeOf' hi', Result.andThen, addr_add, Nat.add_assoc, hlt]
    | sl0 hb => omega
  · rename_i el b off l z kd i hty _
    obtain ⟨hc3, hk⟩ := bif_ok hk (by simp [RO.good]) hr
    obtain ⟨g1, g2⟩ := and2 hc3
    have g1 : i + 1 ≤ l := Nat.le_of_ble_eq_true g1
    have g2 := Nat.le_of_ble_eq_true g2
    obtain ⟨i', hi'⟩ := info_of_cells (P := P) (ty := el) (by omega)
    cases hu
    have hk' := hk
    cases hv with
    | @slu _ _ _ _ cc m sh sz hb hl hcz =>
      refine ⟨_, .pointer (some ⟨m, sh + (off + i * P.cellsOf el), none⟩), hk', .ptr hb, ?_⟩
      have hlt : i < l := by omega
      simp [execOp, ho, hc, hc2, Instr.indexAt, asIntOf, run_under hty, Instr.sureAddr, run_sizeOf' hi', Result.andThen, addr_add, Nat.add_assoc, hlt]
    | slu0 hb hx0 => omega
  · rename_i el j off l kd i hty _
    obtain ⟨hc3, hk⟩ := bif_ok hk (by simp [RO.good]) hr
    obtain ⟨g1, g2⟩ := and2 hc3
    have g1 : i + 1 ≤ l := Nat.le_of_ble_eq_true g1
    have g2 := Nat.eq_of_beq_eq_true g2
    obtain ⟨i', hi'⟩ := info_of_cells (P := P) (ty := el) (by omega)
    cases hu
    have hk' := hk
    cases hv with
    | @xsl _ _ _ m sh mm c c' hb hl hcc =>
      refine ⟨_, .pointer (some ⟨m, sh + (off + i), none⟩), hk', .xp hb (by show off + i < mm; omega), ?_⟩
      have hlt : i < l := by omega
      simp [execOp, ho, hc, hc2, Instr.indexAt, asIntOf, run_under hty, Instr.sureAddr, run_sizeOf' hi', Result.andThen, addr_add, Nat.add_assoc, hlt, g2]
  · subst hk; cases hr
theorem oIndex_pure {ty : TypeId} {x y : Operand} (hk : oIndex ty x y P pr ih t h s k = r) (hr : r.good) (ha : AR D e t a) (hs : Sim e h w) (ho : o.op = .index ty x y) : PureOk P e s h w a o k r := by
  obtain ⟨v, hk, hv⟩ := opnd_ok (a := a) hk hr ha
  obtain ⟨u, hk, hu⟩ := opnd_ok (a := a) hk hr ha
  generalize hc : a.eval x = cv at hv
  generalize hc2 : a.eval y = cv2 at hu
  split at hk
  · rename_i n el cs kd i hty _
    obtain ⟨hc3, hk⟩ := bif_ok hk (by simp [RO.good]) hr
    have g1 : i + 1 ≤ n := Nat.le_of_ble_eq_true hc3
    cases hu
    cases hv with
    | agg hl =>
      obtain ⟨v, y, h1, h2, h3⟩ := partV_ok (P := P) (w := w) hk hr hl
      refine ⟨v, _, h1, h2, ?_⟩
      have hlt : i < n := by omega
      have hsz : ∃ i', P.info? el = some i' := by
        unfold partV at hk
        obtain ⟨d, hd, _⟩ := ifAgg_ok hk hr
        exact info_of_underlying hd
      obtain ⟨i', hi'⟩ := hsz
      simp only [Nat.mul_eq] at h3
      simp [execOp, ho, hc, hc2, Instr.index, asIntOf, run_under hty, run_sizeOf' hi', Result.andThen, hlt, h3]
  · rename_i b kd i hty _
    cases hu; cases hv
    split at hk
    · rename_i c l hdr
      refine ⟨_, _, hk, (.int _ _), ?_⟩
      have hget : b[i]? = some c := by
        have h0 : b.data.toList[i]? = some c := by
          have := congrArg (fun l => l[0]?) hdr
          simpa using this
        rw [Array.getElem?_toList] at h0
        have hlt : i < b.data.size := (Array.getElem?_eq_some_iff.1 h0).1
        have hv := (Array.getElem?_eq_some_iff.1 h0).2
        rw [getElem?_pos b i hlt]
        exact congrArg some hv
      simp [execOp, ho, hc, hc2, Instr.index, asIntOf, run_under hty, Result.andThen, hget]
    · subst hk; cases hr
  · subst hk; cases hr
/-- Parts put into cells. -/
theorem foldl_putArr (off : Nat) : ∀ (l : List Value) (n : Nat) (c : Array Value), (l.zipIdx n).foldl (fun cs (p : Value × Nat) => cs.setIfInBounds (off + p.2) p.1) c = putArr c (off + n) l
  | [], n, c => rfl
  | v :: l, n, c => by
    simp only [List.zipIdx_cons, List.foldl_cons, putArr]
    rw [foldl_putArr off l (n + 1)]; rfl
theorem splice_VRs {l cs : List V} {xs ys : List Value} {off : Nat} (hl : VRs e l xs) (hc : VRs e cs ys) (hle : off + cs.length ≤ l.length) : VRs e (splice l cs off) (putArr ⟨xs⟩ off ys).toList := by
  have h1 := hl.length
  have h2 := hc.length
  have : (putArr ⟨xs⟩ off ys).toList = xs.take off ++ ys ++ xs.drop (off + ys.length) := by
    apply List.ext_getElem?
    intro i
    rw [Array.getElem?_toList, putArr_get ys ⟨xs⟩ off i (by simp; omega)]
    by_cases hi : i < off
    · rw [if_neg (by omega), List.append_assoc, List.getElem?_append_left (by simp; omega), List.getElem?_take_of_lt hi]; simp
    · by_cases hi2 : i < off + ys.length
      · rw [if_pos (by omega), List.append_assoc, List.getElem?_append_right (by simp; omega), List.getElem?_append_left (by simp; omega)]
        congr 1; simp; omega
      · rw [if_neg (by omega), List.append_assoc, List.getElem?_append_right (by simp; omega), List.getElem?_append_right (by simp; omega), List.getElem?_drop]
        simp
        congr 1; omega
  rw [this]
  unfold splice
  rw [len_eq, h2]
  exact ((hl.take off).append hc).append (hl.drop _)
theorem fillV_ok {place : Nat → Option (Nat × Nat)} : ∀ {l : List (Nat × V)} {cells : List V} {f : List V → RO} (hk : fillV place l cells f = r) (hr : r.good) {xs : List Value} {parts : List (Nat × Value)} (hc : VRs e cells xs)
    (hp : l.map (·.1) = parts.map (·.1)) (hv : VRs e (l.map (·.2)) (parts.map (·.2))), ∃ cs ys, f cs = r ∧ VRs e cs ys ∧ Instr.fill place ⟨xs⟩ parts = some ⟨ys⟩ ∧ cs.length = cells.length
  | [], cells, f, hk, hr, xs, parts, hc, hp, hv => by
    cases parts with
    | nil => exact ⟨cells, xs, hk, hc, rfl, rfl⟩
    | cons p q => cases hp
  | p :: l, cells, f, hk, hr, xs, parts, hc, hp, hv => by
    cases parts with
    | nil => cases hp
    | cons q parts =>
      obtain ⟨i, v⟩ := p
      obtain ⟨i', x⟩ := q
      simp only [List.map_cons, List.cons.injEq] at hp
      obtain ⟨rfl, hp⟩ := hp
      cases hv with
      | cons hv hrest =>
        change (match place i with
          | some (off, z) => bif Nat.beq (len v.cells) z && Nat.ble (Nat.add off (len v.cells)) (len cells) then fillV place l (splice cells v.cells off) f else .err 42
          | none => .err 43) = r at hk
        split at hk
        · rename_i off z hpl
          obtain ⟨hc2, hk⟩ := bif_ok hk (by simp [RO.good]) hr
          obtain ⟨g1, g2⟩ := and2 hc2
          have g1 := Nat.eq_of_beq_eq_true g1
          have g2 : off + len v.cells ≤ len cells := Nat.le_of_ble_eq_true g2
          rw [len_eq, len_eq] at g2
          rw [len_eq] at g1
          have hvc := hv.cells
          have hvl := hvc.length
          have hcl := hc.length
          have hsp := splice_VRs hc hvc g2
          obtain ⟨cs, ys, h1, h2, h3, h4⟩ := fillV_ok hk hr hsp hp hrest
          have hsl : (splice cells v.cells off).length = cells.length := by
            unfold splice; rw [len_eq]; simp; omega
          refine ⟨cs, ys, h1, h2, ?_, by rw [h4, hsl]⟩
          simp only [Instr.fill, hpl]
          have e1 : x.cells.size = z := by rw [← g1, hvl]; simp
          rw [if_neg (by
            simp only [e1, ne_eq, not_true_eq_false, false_or, Bool.or_eq_true, decide_eq_true_eq]
            simp
            have : x.cells.size = v.cells.length := by rw [hvl]; simp
            rw [e1] at this
            omega)]
          rw [← Array.foldl_toList, Array.toList_zipIdx]
          rw [foldl_putArr off x.cells.toList 0 ⟨xs⟩]
          simpa using h3
        · subst hk; cases hr
end Go.Ev
namespace Go.Ev
variable {D : List Deferred}
variable {P : Program} {pr : Prims} {ih : Rn} {e : Env} {t : T V} {h : H} {s : Nat} {w : World} {a : Act} {r : RO} {k : K} {o : Oper}
theorem fst_map (l : List (Nat × V)) (parts : Array (Nat × Operand)) (f : Operand → Value) (h : l.map (·.1) = parts.toList.map (·.1)) : l.map (·.1) = (parts.map fun (i, x) => (i, f x)).toList.map (·.1) := by
  rw [h]; simp [Function.comp_def]
theorem snd_map {l : List (Nat × V)} {parts : Array (Nat × Operand)} {f : Operand → Value} (h : VRs e (l.map (·.2)) (parts.toList.map fun p => f p.2)) : VRs e (l.map (·.2)) ((parts.map fun (i, x) => (i, f x)).toList.map (·.2)) := by
  have : (parts.map fun (i, x) => (i, f x)).toList.map (·.2) = parts.toList.map fun p => f p.2 := by simp [Function.comp_def]
  rw [this]; exact h
theorem oBuild_pure {ty : TypeId} {parts : Array (Nat × Operand)} (hk : oBuild ty parts P pr ih t h s k = r) (hr : r.good) (ha : AR D e t a) (hs : Sim e h w) (ho : o.op = .build ty parts) : PureOk P e s h w a o k r := by
  unfold oBuild at hk
  split at hk
  · rename_i fs hu
    split at hk
    · rename_i pl z hpl hz
      obtain ⟨i, zv, hi, hz2, hv, hrun⟩ := zeroV_ok (e := e) hz
      obtain ⟨l, hk, g1, g2⟩ := opparts_ok (a := a) hk hr ha
      obtain ⟨cs, ys, hk, h1, h2, _⟩ := fillV_ok hk hr hv.cells (fst_map l parts a.eval g1) (snd_map g2)
      refine ⟨_, _, hk, .agg h1, ?_⟩
      have hb := run_build (P := P) w ty (parts.map fun (i, x) => (i, a.eval x)) ⟨ys⟩ (by
        unfold Program.built
        unfold placesOf at hpl
        simp only [hi, hu, hz2, hpl]
        simpa using h2)
      simp only [execOp, ho]
      exact run_v hb
    · subst hk; cases hr
  · rename_i n el hu
    split at hk
    · rename_i ie z hie hz
      obtain ⟨i, zv, hi, hz2, hv, hrun⟩ := zeroV_ok (e := e) hz
      obtain ⟨l, hk, g1, g2⟩ := opparts_ok (a := a) hk hr ha
      obtain ⟨cs, ys, hk, h1, h2, _⟩ := fillV_ok hk hr hv.cells (fst_map l parts a.eval g1) (snd_map g2)
      refine ⟨_, _, hk, .agg h1, ?_⟩
      have hb := run_build (P := P) w ty (parts.map fun (i, x) => (i, a.eval x)) ⟨ys⟩ (by
        unfold Program.built
        simp only [hi, hu, hz2, hie]
        rw [info_cells hie]
        simpa using h2)
      simp only [execOp, ho]
      exact run_v hb
    · subst hk; cases hr
  · subst hk; cases hr
theorem reps_len (z : List V) : ∀ n, (reps z n).length = n * z.length
  | 0 => by rw [Nat.zero_mul]; rfl
  | n + 1 => by show (z ++ reps z n).length = _; rw [List.length_append, reps_len z n, Nat.succ_mul]; omega
theorem reps_get (z : List V) (hz : 0 < z.length) : ∀ n i, i < n * z.length → (reps z n)[i]? = z[i % z.length]?
  | 0, i, h => by simp at h
  | n + 1, i, h => by
    show (z ++ reps z n)[i]? = _
    by_cases hi : i < z.length
    · rw [List.getElem?_append_left hi, Nat.mod_eq_of_lt hi]
    · rw [List.getElem?_append_right (by omega), reps_get z hz n (i - z.length) (by rw [Nat.succ_mul] at h; omega)]
      rw [← Nat.mod_eq_sub_mod (by omega)]
theorem reps_VRs {z : List V} {zs : Array Value} {n c : Nat} (hz : VRs e z zs.toList) (hp : 0 < z.length) (hn : n = c * z.length) : VRs e (reps z c) ((Array.range n).map (fun i => zs[i % zs.size]!)).toList := by
  have hzl : z.length = zs.size := by rw [hz.length]; simp
  refine VRs.ofFn (by rw [reps_len]; simp [hn]) (fun i hi => ?_)
  rw [reps_len] at hi
  have hm : i % z.length < z.length := Nat.mod_lt _ hp
  obtain ⟨y, g1, g2⟩ := hz.get un (i % z.length) hm
  refine ⟨z.getD (i % z.length) un, y, ?_, ?_, g2⟩
  · rw [reps_get z hp c i hi, List.getD_eq_getElem?_getD]; simp [hm]
  · have hi' : i < n := by omega
    have : zs[i % zs.size]? = some y := by rw [← hzl, ← Array.getElem?_toList]; exact g1
    simp only [Array.toList_map, Array.toList_range, List.getElem?_map]
    rw [List.getElem?_range hi']
    simp [getElem!_def, this]
theorem run_buildSliceN {ty el : TypeId} {n : Nat} {parts : Array (Nat × Value)} {cells : Array Value} {ie : TypeInfo} {z : Value}
    (hu : P.underlying ty = some (.slice el)) (hie : P.info? el = some ie) (hz : ie.zero = some z) (hsmall : ¬ n * ie.size > 2 ^ 24) (hpos : ¬ n * ie.size = 0)
    (h : Instr.fill (fun i => some (i * ie.size, ie.size)) ((Array.range (n * ie.size)).map (z.cells[· % z.cells.size]!)) parts.toList = some cells) :
    (Instr.buildSlice ty n parts).run P w = .ok (.slice (some ⟨w.heap.size, 0, none⟩) n n) (w.alloc (.cells cells el (0, 0))) := by
  simp [Instr.buildSlice, run_underlying hu, sizeOf, typeInfo, zeroValue, hie, hz, hsmall, hpos, h, newRow]
theorem run_buildSlice0 {ty el : TypeId} {n : Nat} {parts : Array (Nat × Value)} {cells : Array Value} {ie : TypeInfo}
    (hu : P.underlying ty = some (.slice el)) (hie : P.info? el = some ie) (hpos : n * ie.size = 0)
    (h : Instr.fill (fun i => some (i * ie.size, ie.size)) #[] parts.toList = some cells) :
    (Instr.buildSlice ty n parts).run P w = .ok (.slice (some ⟨w.heap.size, 0, none⟩) n n) (w.alloc (.cells cells el (0, 0))) := by
  have hr0 : ∀ f : Nat → Value, (Array.range 0).map f = #[] := fun f => by simp
  simp only [Instr.buildSlice, Sem.run_bind, run_underlying hu, Result.andThen, run_sizeOf' hie, ← info_cells hie, hpos, if_pos]
  rw [if_neg (by decide)]
  simp [hr0, h, newRow]
theorem oBuildSlice_ok {ty : TypeId} {n : Nat} {parts : Array (Nat × Operand)} (hk : oBuildSlice ty n parts P pr ih t h s k = r) (hr : r.good) (ha : AR D e t a) (hs : Sim e h w) (hf : Free e s) (ho : o.op = .buildSlice ty n parts) : OpOk P e s h w a o k r := by
  unfold oBuildSlice at hk
  split at hk
  · rename_i el hu
    split at hk
    · rename_i z hz
      obtain ⟨i, zv, hi, hz2, hv, hrun⟩ := zeroV_ok (e := e) hz
      obtain ⟨hc, hk⟩ := bif_ok hk (by simp [RO.good]) hr
      obtain ⟨c1, c2, c3⟩ := and3 hc
      have c1 := Nat.eq_of_beq_eq_true c1
      have c2 : 1 ≤ P.cellsOf el := Nat.le_of_ble_eq_true c2
      have c3 : n * P.cellsOf el ≤ 16777216 := Nat.le_of_ble_eq_true c3
      rw [len_eq] at c1
      obtain ⟨l, hk, g1, g2⟩ := opparts_ok (a := a) hk hr ha
      have hrep := reps_VRs (n := n * P.cellsOf el) (c := n) hv.cells (by omega) (by rw [c1])
      obtain ⟨cs, ys, hk, h1, h2, hlen⟩ := fillV_ok hk hr hrep (fst_map l parts a.eval g1) (snd_map g2)
      obtain ⟨h', e', h3, h4, h5⟩ := newCells_ok hk hr hs hf h1 el
      have hyl : ys.length = n * P.cellsOf el := by rw [← h1.length, hlen, reps_len, c1]
      refine ⟨_, _, _, h3, gives_value (x := .slice (some ⟨w.heap.size, 0, none⟩) n n) (w' := w.alloc (.cells ⟨ys⟩ el (0, 0))) ?_ ⟨e', ?_, h5⟩⟩
      · simp only [execOp, ho]
        refine run_v ?_
        have hsz := info_cells hi
        by_cases h0 : n * P.cellsOf el = 0
        · rw [h0] at h2
          exact run_buildSlice0 hu hi (by rw [hsz]; exact h0) (by rw [hsz]; simpa using h2)
        · exact run_buildSliceN hu hi hz2 (by rw [hsz]; omega) (by rw [hsz]; exact h0) (by rw [hsz]; exact h2)
      · have := VR.sl (e := e') (b := s) (o := 0) (l := n) (c := n) h4 (Nat.le_refl _)
        simpa using this
    · subst hk; cases hr
  · subst hk; cases hr
theorem oMakeSlice_ok {ty : TypeId} {x y : Operand} (hk : oMakeSlice ty x y P pr ih t h s k = r) (hr : r.good) (ha : AR D e t a) (hs : Sim e h w) (hf : Free e s) (ho : o.op = .makeSlice ty x y) : OpOk P e s h w a o k r := by
  unfold oMakeSlice at hk
  split at hk
  · rename_i el hu
    obtain ⟨v, hk, hv⟩ := opnd_ok (a := a) hk hr ha
    obtain ⟨u, hk, hu2⟩ := opnd_ok (a := a) hk hr ha
    generalize hc : a.eval x = cv at hv
    generalize hc2 : a.eval y = cv2 at hu2
    split at hk
    · rename_i k1 l k2 c _
      cases hv; cases hu2
      split at hk
      · rename_i z hz
        obtain ⟨i, zv, hi, hz2, hv, hrun⟩ := zeroV_ok (e := e) hz
        obtain ⟨hc3, hk⟩ := bif_ok hk (by simp [RO.good]) hr
        obtain ⟨c1, c2, c3⟩ := and3 hc3
        have c1 := Nat.eq_of_beq_eq_true c1
        have c2 : 1 ≤ P.cellsOf el := Nat.le_of_ble_eq_true c2
        have c3 : c ≤ 1000000000 := Nat.le_of_ble_eq_true c3
        rw [len_eq] at c1
        obtain ⟨hc4, hk⟩ := bif_ok hk (by simp [RO.good]) hr
        obtain ⟨d1, d2⟩ := and2 hc4
        have d1 : l ≤ c := Nat.le_of_ble_eq_true d1
        have d2 : c * (P.bytesOf el + 1) ≤ 1000000000 := Nat.le_of_ble_eq_true d2
        have d3 : c * P.bytesOf el ≤ 1000000000 := by rw [Nat.mul_add] at d2; omega
        have hrep := reps_VRs (n := c * P.cellsOf el) (c := c) hv.cells (by omega) (by rw [c1])
        obtain ⟨h', e', h3, h4, h5⟩ := newCells_ok hk hr hs hf hrep el
        refine ⟨_, _, _, h3, gives_value (x := .slice (some ⟨w.heap.size, 0, none⟩) l c) (w' := w.alloc (.cells ((Array.range (c * P.cellsOf el)).map (fun i => zv.cells[i % zv.cells.size]!)) el (0, 0))) ?_ ⟨e', ?_, h5⟩⟩
        · simp only [execOp, ho, hc, hc2]
          refine run_v ?_
          have hbytes : i.bytes = P.bytesOf el := by simp [Program.bytesOf, hi]
          have hsz := info_cells hi
          have hbig : ((P.bytesOf el : Int) * (c : Int)) ≤ 1000000000 := by
            have h1 := Int.ofNat_le.2 d3
            rw [Int.natCast_mul, show ((1000000000 : Nat) : Int) = 1000000000 from rfl] at h1
            rw [Int.mul_comm]; exact h1
          have := run_make (P := P) w ty el i zv hu hi hz2 k1 k2 (l : Int) (c : Int) (by omega) (by omega) (by rw [hbytes]; omega) (by omega)
          simp only [Int.toNat_natCast, hsz] at this
          exact this
        · have := VR.sl (e := e') (b := s) (o := 0) (l := l) (c := c) h4 d1
          simpa using this
      · subst hk; cases hr
    · subst hk; cases hr
  · subst hk; cases hr
end Go.Ev
