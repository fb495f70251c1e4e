/- An evaluator of the model's code, seventh part: the laws of places, structs, slices. -/
import Derived.Test.YtnklmadmenkdoaaGreatEvF
set_option linter.unusedVariables false
set_option linter.unusedSimpArgs false
namespace Go.Ev
variable {D : List Deferred}
variable {P : Program} {pr : Prims} {ih : Rn} {e : Env} {t : T V} {h : H} {s : Nat} {w : World} {a : Act} {r : RO} {k : K} {o : Oper}
theorem oMakeIface_pure {ty : TypeId} {x : Operand} (hk : oMakeIface ty x P pr ih t h s k = r) (hr : r.good) (ha : AR D e t a) (hs : Sim e h w) (ho : o.op = .makeInterface ty x) : PureOk P e s h w a o k r := by
  unfold oMakeIface at hk
  split at hk
  · subst hk; cases hr
  · rename_i d hni hd
    obtain ⟨v, hk, hv⟩ := opnd_ok (a := a) hk hr ha
    refine ⟨_, _, hk, (.ifc hv), ?_⟩
    have : (Instr.makeInterface ty (a.eval x)).run P w = .ok (.iface ty (a.eval x)) w := by
      simp only [Instr.makeInterface, Sem.run_bind, run_under hd, Result.andThen]
      cases d <;> first | rfl | exact absurd rfl (hni _)
    simp [execOp, ho, this, Result.andThen]
  · subst hk; cases hr
theorem oMakeFunc_pure {f : Fn} {first caps : Array Operand} (hk : oMakeFunc f first caps P pr ih t h s k = r) (hr : r.good) (ha : AR D e t a) (hs : Sim e h w) (ho : o.op = .makeFunc f first caps) : PureOk P e s h w a o k r := by
  unfold oMakeFunc at hk
  split at hk
  · rename_i n hfirst
    obtain ⟨vs, hk, hvs⟩ := opnds_ok (a := a) hk hr ha
    have h0 : first = #[] := by cases first; simpa using hfirst
    subst h0
    refine ⟨_, _, hk, (.fn hvs), ?_⟩
    have hm : caps.map a.eval = ⟨caps.toList.map a.eval⟩ := by apply Array.ext'; simp
    simp [execOp, ho, Instr.makeFunc, hm]
  · rename_i n x hfirst
    split at hk
    · rename_i hcaps
      obtain ⟨v, hk, hv⟩ := opnd_ok (a := a) hk hr ha
      refine ⟨_, _, hk, .bfn hv, ?_⟩
      have h1 : first = #[x] := by apply Array.ext'; simpa using hfirst
      have h2 : caps = #[] := by apply Array.ext'; simpa using hcaps
      subst h1 h2
      simp [execOp, ho, Instr.makeFunc, Result.andThen]
    · subst hk; cases hr
  · rename_i nm x hfirst
    split at hk
    · rename_i hcaps
      obtain ⟨v, hk, hv⟩ := opnd_ok (a := a) hk hr ha
      refine ⟨_, _, hk, .mfn hv, ?_⟩
      have h1 : first = #[x] := by apply Array.ext'; simpa using hfirst
      have h2 : caps = #[] := by apply Array.ext'; simpa using hcaps
      subst h1 h2
      simp [execOp, ho, Instr.makeFunc, Result.andThen]
    · subst hk; cases hr
  · subst hk; cases hr
theorem oMakeMap_ok {ty : TypeId} {x : Option Operand} (hk : oMakeMap ty x P pr ih t h s k = r) (hr : r.good) (ha : AR D e t a) (hs : Sim e h w) (hf : Free e s) (ho : o.op = .makeMap ty x) : OpOk P e s h w a o k r := by
  unfold oMakeMap at hk
  split at hk
  · obtain ⟨h', e', h1, h2, h3⟩ := newB_ok (sz := 0) (ob := .map #[] 0) hk hr hs hf (by simp) (fun e' hle => .map .nil)
    refine ⟨_, _, _, h1, gives_value (x := .map (some w.heap.size)) (w' := w.alloc (.map #[] 0)) ?_ ⟨e', .map h2, h3⟩⟩
    simp [execOp, ho, Instr.makeMap, Result.andThen, run_newObj]
  · subst hk; cases hr
theorem bound_ok {x : Option Operand} {d : Nat} {f : Nat → RO} (hk : bound t x d f = r) (hr : r.good) (ha : AR D e t a) :
    ∃ n, f n = r ∧ ((x = none ∧ n = d) ∨ ∃ y kd, x = some y ∧ a.eval y = .int kd (n : Int)) := by
  cases x with
  | none => exact ⟨d, hk, .inl ⟨rfl, rfl⟩⟩
  | some y =>
    simp only [bound] at hk
    obtain ⟨v, hk, hv⟩ := opnd_ok (a := a) hk hr ha
    generalize hc : a.eval y = cv at hv
    split at hk
    · cases hv; exact ⟨_, hk, .inr ⟨y, _, rfl, hc⟩⟩
    · subst hk; cases hr
theorem run_sliceBound {kd : IntKind} {n y : Nat} {c : BoundsCode} (h : n ≤ y) : (Instr.sliceBound (.int kd (n : Int)) y c).run P w = .ok n w := by
  simp [Instr.sliceBound, asIntOf, Result.andThen, h]
/-- The bounds of a slice expression. -/
theorem run_sliceBounds {isS : Bool} {len cap : Nat} {lo hi mx : Option Operand} {ln hn m : Nat} (hm : (mx = none ∧ m = cap) ∨ ∃ y kd, mx = some y ∧ a.eval y = .int kd (m : Int))
    (hh : (hi = none ∧ hn = len) ∨ ∃ y kd, hi = some y ∧ a.eval y = .int kd (hn : Int)) (hl : (lo = none ∧ ln = 0) ∨ ∃ y kd, lo = some y ∧ a.eval y = .int kd (ln : Int))
    (h1 : ln ≤ hn) (h2 : hn ≤ m) (h3 : m ≤ cap) (h4 : mx ≠ none → hi ≠ none) :
    (Instr.sliceBounds isS len cap (lo.map a.eval) (hi.map a.eval) (mx.map a.eval)).run P w = .ok (ln, hn, m) w := by
  rcases hm with ⟨rfl, rfl⟩ | ⟨ym, km, rfl, hm⟩
  · rcases hh with ⟨rfl, rfl⟩ | ⟨yh, kh, rfl, hh⟩ <;> rcases hl with ⟨rfl, rfl⟩ | ⟨yl, kl, rfl, hl⟩ <;>
      simp_all [Instr.sliceBounds, Result.andThen, run_sliceBound]
  · rcases hh with ⟨rfl, rfl⟩ | ⟨yh, kh, rfl, hh⟩
    · exact absurd rfl (h4 (by simp))
    · rcases hl with ⟨rfl, rfl⟩ | ⟨yl, kl, rfl, hl⟩ <;> simp_all [Instr.sliceBounds, Result.andThen, run_sliceBound]
theorem info_cells {ty : TypeId} {i : TypeInfo} (h : P.info? ty = some i) : i.size = P.cellsOf ty := by simp [Program.cellsOf, h]
theorem run_sliceSl {ty el : TypeId} {b : Option Addr} {len cap ln hn m : Nat} {lo hi mx : Option Value} (hu : P.underlying ty = some (.slice el)) (hi' : ∃ i, P.info? el = some i)
    (hb : (Instr.sliceBounds true len cap lo hi mx).run P w = .ok (ln, hn, m) w) :
    (Instr.sliceAt ty (.slice b len cap) lo hi mx).run P w = .ok (.slice (if m = ln then b else b.map (·.add (ln * P.cellsOf el))) (hn - ln) (m - ln)) w := by
  obtain ⟨i, hi'⟩ := hi'
  simp [Instr.sliceAt, Instr.slice, run_under hu, Result.andThen, hb, run_sizeOf' hi']
theorem hiOk_ok {mx hi : Option Operand} (h : hiOk mx hi = true) : mx ≠ none → hi ≠ none := by
  intro h1 h2; subst h2; cases mx with
  | none => exact h1 rfl
  | some _ => cases h
theorem and3 {a b c : Bool} (h : (a && b && c) = true) : a = true ∧ b = true ∧ c = true := by simpa [Bool.and_eq_true, and_assoc] using h
theorem and2 {a b : Bool} (h : (a && b) = true) : a = true ∧ b = true := by simpa [Bool.and_eq_true] using h
theorem oSlice_pure {ty : TypeId} {x : Operand} {lo hi mx : Option Operand} (hk : oSlice ty x lo hi mx P pr ih t h s k = r) (hr : r.good) (ha : AR D e t a) (hs : Sim e h w) (ho : o.op = .slice ty x lo hi mx) : PureOk P e s h w a o k r := by
  obtain ⟨v, hk, hv⟩ := opnd_ok (a := a) hk hr ha
  generalize hc : a.eval x = cv at hv
  split at hk
  · rename_i b hu
    cases hv
    split at hk
    · rename_i hmx
      obtain ⟨hn, hk, hh⟩ := bound_ok (a := a) hk hr ha
      obtain ⟨ln, hk, hl⟩ := bound_ok (a := a) hk hr ha
      obtain ⟨hc2, hk⟩ := bif_ok hk (by simp [RO.good]) hr
      obtain ⟨g1, g2⟩ := and2 hc2
      have hb := run_sliceBounds (P := P) (w := w) (isS := false) (mx := none) (m := b.size) (cap := b.size) (a := a) (.inl ⟨rfl, rfl⟩) hh hl (Nat.le_of_ble_eq_true g1) (Nat.le_of_ble_eq_true g2) (Nat.le_refl _) (by simp)
      refine ⟨_, _, hk, (.str _), ?_⟩
      simp only [Option.map_none] at hb
      simp [execOp, ho, hc, Instr.sliceAt, Instr.slice, run_under hu, Result.andThen, hb, Option.map_none]
    · subst hk; cases hr
  · rename_i el hu
    cases hv
    split at hk
    · rename_i hmx
      obtain ⟨hn, hk, hh⟩ := bound_ok (a := a) hk hr ha
      obtain ⟨ln, hk, hl⟩ := bound_ok (a := a) hk hr ha
      obtain ⟨hc2, hk⟩ := bif_ok hk (by simp [RO.good]) hr
      obtain ⟨g1, g2⟩ := and2 hc2
      have g1 := Nat.eq_of_beq_eq_true g1
      have g2 := Nat.eq_of_beq_eq_true g2
      subst g1 g2
      split at hk
      case h_2 => subst hk; cases hr
      rename_i i hi'
      have hb := run_sliceBounds (P := P) (w := w) (isS := true) (mx := none) (m := 0) (cap := 0) (len := 0) (a := a) (.inl ⟨rfl, rfl⟩) hh hl (Nat.le_refl _) (Nat.le_refl _) (Nat.le_refl _) (by simp)
      refine ⟨_, _, hk, .nils, ?_⟩
      have := run_sliceSl (b := none) hu ⟨i, hi'⟩ hb
      simp only [execOp, ho, hc]
      refine run_v ?_
      simpa using this
    · subst hk; cases hr
  · rename_i el b off l c hu
    obtain ⟨m, hk, hm⟩ := bound_ok (a := a) hk hr ha
    obtain ⟨hn, hk, hh⟩ := bound_ok (a := a) hk hr ha
    obtain ⟨ln, hk, hl⟩ := bound_ok (a := a) hk hr ha
    obtain ⟨hc2, hk⟩ := bif_ok hk (by simp [RO.good]) hr
    obtain ⟨g1, g2, g3⟩ := and3 hc2
    have g1 := Nat.le_of_ble_eq_true g1
    have g2 := Nat.le_of_ble_eq_true g2
    have g3 := Nat.le_of_ble_eq_true g3
    obtain ⟨hc3, hk⟩ := bif_ok hk (by simp [RO.good]) hr
    have h4 := hiOk_ok hc3
    split at hk
    case h_2 => subst hk; cases hr
    rename_i i hi'
    have hb := fun (b0 : Option Addr) => run_sliceSl (P := P) (w := w) (b := b0) hu ⟨i, hi'⟩ (run_sliceBounds (P := P) (w := w) (isS := true) (mx := mx) (m := m) (cap := c) (len := l) (a := a) hm hh hl g1 g2 g3 h4)
    cases hq : Nat.beq m ln with
    | true =>
      rw [hq] at hk
      have hq := Nat.eq_of_beq_eq_true hq
      have hk' := hk
      have hz : hn - ln = 0 ∧ m - ln = 0 := by omega
      cases hv with
      | sl hb' hlc =>
        rename_i n sh sz
        refine ⟨_, .slice (some ⟨n, sh + off, none⟩) 0 0, hk, .sl0 hb', ?_⟩
        simp only [execOp, ho, hc]
        refine run_v ?_
        rw [hb, if_pos hq, hz.1, hz.2]
      | @sl0 _ _ x0 n sh sz hb' =>
        refine ⟨_, .slice (some ⟨n, x0, none⟩) 0 0, hk', .sl0 hb', ?_⟩
        simp only [execOp, ho, hc]
        refine run_v ?_
        rw [hb, if_pos hq, hz.1, hz.2]
    | false =>
      rw [hq] at hk
      have hq := Nat.ne_of_beq_eq_false hq
      cases hv with
      | sl hb' hlc =>
        rename_i n sh sz
        refine ⟨_, .slice (some ⟨n, sh + (off + ln * P.cellsOf el), none⟩) (hn - ln) (m - ln), hk, .sl hb' (by show hn - ln ≤ m - ln; omega), ?_⟩
        simp only [execOp, ho, hc]
        refine run_v ?_
        rw [hb, if_neg hq]; simp [addr_add, Nat.add_assoc]
      | sl0 hb' => omega
  · rename_i el b off l z hu
    cases mx with
    | none =>
      dsimp only at hk
      obtain ⟨hn, hk, hh⟩ := bound_ok (a := a) hk hr ha
      obtain ⟨ln, hk, hl⟩ := bound_ok (a := a) hk hr ha
      obtain ⟨hc2, hk⟩ := bif_ok hk (by simp [RO.good]) hr
      obtain ⟨g1, g2, g3⟩ := and3 hc2
      have g1 := Nat.le_of_ble_eq_true g1
      have g2 := Nat.le_of_ble_eq_true g2
      have g3 := Nat.eq_of_beq_eq_true g3
      split at hk
      case h_2 => subst hk; cases hr
      rename_i i hi'
      have hk' := hk
      cases hv with
      | slu hb' hlc hcz =>
        rename_i c n sh sz
        have hb := run_sliceSl (P := P) (w := w) (b := some ⟨n, sh + off, none⟩) hu ⟨i, hi'⟩ (run_sliceBounds (P := P) (w := w) (isS := true) (mx := none) (m := c) (cap := c) (len := l) (a := a) (.inl ⟨rfl, rfl⟩) hh hl g1 (by omega) (Nat.le_refl _) (by simp))
        by_cases hq : c = ln
        · refine ⟨_, .slice (some ⟨n, sh + off, none⟩) 0 0, hk, ?_, ?_⟩
          rotate_left
          · simp only [execOp, ho, hc]
            refine run_v ?_
            simp only [Option.map_none] at hb
            rw [Option.map_none, hb, if_pos hq, show hn - ln = 0 by omega, show c - ln = 0 by omega]
          · have : Nat.sub hn ln = 0 := by show hn - ln = 0; omega
            rw [this]; exact .slu0 hb' (by show sz ≤ sh + (off + ln * z); rw [← hq]; omega)
        · refine ⟨_, .slice (some ⟨n, sh + (off + ln * z), none⟩) (hn - ln) (c - ln), hk, .slu hb' (by show hn - ln ≤ c - ln; omega) ?_, ?_⟩
          rotate_left
          · simp only [execOp, ho, hc]
            refine run_v ?_
            simp only [Option.map_none] at hb
            rw [Option.map_none, hb, if_neg hq]; simp [addr_add, Nat.add_assoc, g3]
          · show sh + (off + ln * z) + (c - ln) * z = sz
            have hlc' : ln ≤ c := by omega
            have := Nat.sub_mul c ln z
            have h2 : ln * z ≤ c * z := Nat.mul_le_mul_right z hlc'
            omega
      | @slu0 _ _ _ x0 n sh sz hb' hx0 =>
        have hz : ln = 0 ∧ hn = 0 := by omega
        have hv0 : V.slu b (Nat.add off (Nat.mul ln z)) (Nat.sub hn ln) z = V.slu b (Nat.add off (Nat.mul ln z)) 0 z := by rw [show Nat.sub hn ln = 0 from by show hn - ln = 0; omega]
        rw [hv0] at hk'
        obtain ⟨rfl, rfl⟩ := hz
        have hb := run_sliceSl (P := P) (w := w) (b := some ⟨n, x0, none⟩) hu ⟨i, hi'⟩ (run_sliceBounds (P := P) (w := w) (isS := true) (mx := none) (m := 0) (cap := 0) (len := 0) (a := a) (.inl ⟨rfl, rfl⟩) hh hl (Nat.le_refl _) (Nat.le_refl _) (Nat.le_refl _) (by simp))
        refine ⟨_, .slice (some ⟨n, x0, none⟩) 0 0, hk', .slu0 hb' (by show sz ≤ sh + (off + 0 * z); omega), ?_⟩
        simp only [execOp, ho, hc]
        refine run_v ?_
        simp only [Option.map_none] at hb
        rw [Option.map_none, hb]; simp
    | some y0 =>
      dsimp only at hk
      obtain ⟨m, hk, hm⟩ := bound_ok (a := a) hk hr ha
      obtain ⟨hn, hk, hh⟩ := bound_ok (a := a) hk hr ha
      obtain ⟨ln, hk, hl⟩ := bound_ok (a := a) hk hr ha
      obtain ⟨hc2, hk⟩ := bif_ok hk (by simp [RO.good]) hr
      obtain ⟨g1, g2, g3⟩ := and3 hc2
      have g1 := Nat.le_of_ble_eq_true g1
      have g2 := Nat.le_of_ble_eq_true g2
      have g3 := Nat.le_of_ble_eq_true g3
      obtain ⟨hc3, hk⟩ := bif_ok hk (by simp [RO.good]) hr
      have h4 := hiOk_ok hc3
      split at hk
      case h_2 => subst hk; cases hr
      rename_i i hi'
      have hm' : ∀ c0, (some y0 = none ∧ m = c0) ∨ ∃ y kd, some y0 = some y ∧ a.eval y = .int kd (m : Int) := fun c0 => by
        rcases hm with ⟨h0, _⟩ | h0
        · cases h0
        · exact .inr h0
      have hb := fun (b0 : Option Addr) (c0 : Nat) (hc0 : m ≤ c0) => run_sliceSl (P := P) (w := w) (b := b0) hu ⟨i, hi'⟩ (run_sliceBounds (P := P) (w := w) (isS := true) (mx := some y0) (m := m) (cap := c0) (len := l) (a := a) (hm' c0) hh hl g1 g2 hc0 h4)
      cases hq : Nat.beq m ln with
      | true =>
        rw [hq] at hk
        have hq := Nat.eq_of_beq_eq_true hq
        have hk' := hk
        have hz : hn - ln = 0 ∧ m - ln = 0 := by omega
        cases hv with
        | slu hb' hlc hcz =>
          rename_i c0 n sh sz
          refine ⟨_, .slice (some ⟨n, sh + off, none⟩) 0 0, hk, .sl0 hb', ?_⟩
          simp only [execOp, ho, hc]
          refine run_v ?_
          rw [hb _ c0 (by omega), if_pos hq, hz.1, hz.2]
        | @slu0 _ _ _ x0 n sh sz hb' hx0 =>
          refine ⟨_, .slice (some ⟨n, x0, none⟩) 0 0, hk', .sl0 hb', ?_⟩
          simp only [execOp, ho, hc]
          refine run_v ?_
          rw [hb _ 0 (by omega), if_pos hq, hz.1, hz.2]
      | false =>
        rw [hq] at hk
        have hq := Nat.ne_of_beq_eq_false hq
        cases hv with
        | slu hb' hlc hcz =>
          rename_i c0 n sh sz
          refine ⟨_, .slice (some ⟨n, sh + (off + ln * P.cellsOf el), none⟩) (hn - ln) (m - ln), hk, .sl hb' (by show hn - ln ≤ m - ln; omega), ?_⟩
          simp only [execOp, ho, hc]
          refine run_v ?_
          rw [hb _ c0 (by omega), if_neg hq]; simp [addr_add, Nat.add_assoc]
        | slu0 hb' hx0 => omega
  · subst hk; cases hr
end Go.Ev
