/- An evaluator of the model's code, sixth part: the laws of the operators. -/
import Derived.Test.YtafoihbkhgnecaaGreatEvE
set_option linter.unusedVariables false
set_option linter.unusedSimpArgs false
namespace Go.Ev
variable {D : List Deferred}
variable {P : Program} {pr : Prims} {ih : Rn} {e : Env} {t : T V} {h : H} {s : Nat} {w : World} {a : Act} {r : RO} {k : K} {o : Oper}
theorem wrap64_of {n : Int} (h1 : -9223372036854775808 ≤ n) (h2 : n ≤ 9223372036854775807) : IntKind.wrap .i64 n = n := by
  have e1 : (2 : Int) ^ 64 = 18446744073709551616 := by decide
  have e2 : (2 : Int) ^ 63 = 9223372036854775808 := by decide
  simp only [IntKind.wrap, IntKind.bits, IntKind.signed, Bool.true_and, Nat.reduceSub, e1, e2]
  by_cases h : n % 18446744073709551616 ≥ 9223372036854775808
  · rw [if_pos (by simpa using h)]; omega
  · rw [if_neg (by simpa using h)]; omega
theorem wrapU {k : IntKind} (hk : k.signed = false) {a m : Nat} (hm : m = 2 ^ k.bits) : IntKind.wrap k (.ofNat a) = .ofNat (a % m) := by
  subst hm
  simp only [IntKind.wrap, hk, Bool.false_and, Bool.false_eq_true, if_false, Int.ofNat_eq_natCast]
  push_cast
  rfl
theorem iwrap_eq (k : IntKind) (n : Int) : iwrap k n = k.wrap n := by
  unfold iwrap
  split
  · rename_i a
    cases h : Nat.ble a 9223372036854775807 with
    | false => rw [cond_false]
    | true =>
      have := Nat.le_of_ble_eq_true h
      rw [cond_true, wrap64_of (by simp only [Int.ofNat_eq_natCast]; omega) (by simp only [Int.ofNat_eq_natCast]; omega)]
  · rename_i a
    cases h : Nat.ble a 9223372036854775807 with
    | false => rw [cond_false]
    | true =>
      have := Nat.le_of_ble_eq_true h
      rw [cond_true, wrap64_of (by simp only [Int.negSucc_eq]; omega) (by simp only [Int.negSucc_eq]; omega)]
  · exact (wrapU (k := .u8) (m := 256) rfl rfl).symm
  · exact (wrapU (k := .u16) (m := 65536) rfl rfl).symm
  · exact (wrapU (k := .u32) (m := 4294967296) rfl rfl).symm
  · exact (wrapU (k := .u64) (m := 18446744073709551616) rfl rfl).symm
  · rfl
theorem ble_eq (a b : Nat) : Nat.ble a b = decide (a ≤ b) := by
  cases h : Nat.ble a b with
  | true => simpa using Nat.le_of_ble_eq_true h
  | false => simpa using Nat.not_le_of_not_ble_eq_true (by simp [h])
theorem beq_eq (a b : Nat) : Nat.beq a b = decide (a = b) := by
  cases h : Nat.beq a b with
  | true => simpa using Nat.eq_of_beq_eq_true h
  | false => simpa using Nat.ne_of_beq_eq_false h
theorem ilt_eq (a b : Int) : ilt a b = decide (a < b) := by
  cases a <;> cases b <;> simp only [ilt, ble_eq, Int.ofNat_eq_natCast, Int.negSucc_eq] <;> (try rw [decide_eq_decide]) <;> simp <;> omega
theorem ile_eq (a b : Int) : ile a b = decide (a ≤ b) := by
  cases a <;> cases b <;> simp only [ile, ble_eq, Int.ofNat_eq_natCast, Int.negSucc_eq] <;> (try rw [decide_eq_decide]) <;> simp <;> omega
theorem ieq_eq (a b : Int) : ieq a b = (a == b) := by
  have hd : (a == b) = decide (a = b) := rfl
  rw [hd]
  cases a <;> cases b <;> simp only [ieq, beq_eq, Int.ofNat_eq_natCast, Int.negSucc_eq] <;> first | (rw [decide_eq_decide]; omega) | (symm; rw [decide_eq_false_iff_not]; omega)
theorem iadd_eq (a b : Int) : iadd a b = a + b := by
  cases a <;> cases b <;> rfl
theorem iquo_eq (a b : Int) : iquo a b = a.tdiv b := by cases a <;> cases b <;> rfl
theorem irem_eq (a b : Int) : irem a b = a.tmod b := by cases a <;> cases b <;> rfl
theorem imod_eq (k : IntKind) : imod k = 2 ^ k.bits := by cases k <;> rfl
theorem ibits_eq (k : IntKind) : ibits k = k.bits := by cases k <;> rfl
theorem imin_eq (a b : Nat) : imin a b = min a b := by
  unfold imin
  cases h : Nat.ble a b with
  | true => have := Nat.le_of_ble_eq_true h; simp; omega
  | false => have : ¬ a ≤ b := Nat.not_le_of_not_ble_eq_true (by simp [h]); rw [cond_false]; omega
theorem iuns_eq (n : Nat) (a : Int) : iuns (2 ^ n) a = (BitVec.ofInt n a).toNat := by
  rw [BitVec.toNat_ofInt]
  have hp : 0 < 2 ^ n := Nat.two_pow_pos n
  cases a with
  | ofNat a =>
    show a % 2 ^ n = _
    show a % 2 ^ n = ((a : Int) % ((2 ^ n : Nat) : Int)).toNat
    rw [← Int.natCast_emod]; exact (Int.toNat_natCast _).symm
  | negSucc a =>
    show 2 ^ n - 1 - a % 2 ^ n = _
    have hlt := Nat.mod_lt a hp
    have hd := Nat.div_add_mod a (2 ^ n)
    have key : (Int.negSucc a) % ((2 ^ n : Nat) : Int) = ((2 ^ n - 1 - a % 2 ^ n : Nat) : Int) := by
      have e1 : Int.negSucc a = ((2 ^ n - 1 - a % 2 ^ n : Nat) : Int) + ((2 ^ n : Nat) : Int) * (-((a / 2 ^ n : Nat) : Int) - 1) := by
        have h2 : ((2 ^ n - 1 - a % 2 ^ n : Nat) : Int) = ((2 ^ n : Nat) : Int) - 1 - ((a % 2 ^ n : Nat) : Int) := by omega
        have h3 : (a : Int) = ((2 ^ n : Nat) : Int) * ((a / 2 ^ n : Nat) : Int) + ((a % 2 ^ n : Nat) : Int) := by exact_mod_cast hd.symm
        rw [h2, Int.negSucc_eq, Int.mul_sub, Int.mul_neg, Int.mul_one]
        omega
      rw [e1, Int.add_mul_emod_self_left]
      exact Int.emod_eq_of_lt (by omega) (by omega)
    show _ = ((Int.negSucc a) % ((2 ^ n : Nat) : Int)).toNat
    rw [key]; simp
theorem keq_eq {a b : IntKind} (h : keq a b = true) : a = b := by cases a <;> cases b <;> first | rfl | cases h
theorem ibin_ok {op : BinOp} {kd : IntKind} {x y : Int} {ty : TypeId} {f : V → RO} (hk : ibin op kd x y f = r) (hr : r.good) (h1 : op ≠ .shl) (h2 : op ≠ .shr) :
    ∃ v z, f v = r ∧ VR e v z ∧ (binOp op ty (.int kd x) (.int kd y)).run P w = .ok z w := by
  cases op <;> simp only [ibin] at hk
  case add => exact ⟨_, _, hk, .int _ _, by simp [binOp, Op.intArith, iwrap_eq, iadd_eq]⟩
  case sub => exact ⟨_, _, hk, .int _ _, by simp [binOp, Op.intArith, iwrap_eq]; rfl⟩
  case mul => exact ⟨_, _, hk, .int _ _, by simp [binOp, Op.intArith, iwrap_eq]⟩
  case quo =>
    cases hz : ieq y (.ofNat 0) with
    | true => rw [hz] at hk; simp only [cond_true] at hk; subst hk; cases hr
    | false =>
      rw [hz] at hk
      rw [ieq_eq] at hz
      have hne : y ≠ 0 := by simpa using hz
      exact ⟨_, _, hk, .int _ _, by simp [binOp, Op.intDiv, hne, iwrap_eq, iquo_eq]⟩
  case rem =>
    cases hz : ieq y (.ofNat 0) with
    | true => rw [hz] at hk; simp only [cond_true] at hk; subst hk; cases hr
    | false =>
      rw [hz] at hk
      rw [ieq_eq] at hz
      have hne : y ≠ 0 := by simpa using hz
      exact ⟨_, _, hk, .int _ _, by simp [binOp, Op.intDiv, hne, irem_eq]⟩
  case and => exact ⟨_, _, hk, .int _ _, by simp [binOp, Op.intBits, iwrap_eq, imod_eq, iuns_eq]⟩
  case or => exact ⟨_, _, hk, .int _ _, by simp [binOp, Op.intBits, iwrap_eq, imod_eq, iuns_eq]⟩
  case xor => exact ⟨_, _, hk, .int _ _, by simp [binOp, Op.intBits, iwrap_eq, imod_eq, iuns_eq]⟩
  case andNot => exact ⟨_, _, hk, .int _ _, by simp [binOp, Op.intBits, iwrap_eq, imod_eq, iuns_eq]⟩
  case eql => exact ⟨_, _, hk, .bool _, by simp [binOp, Op.intCmp, ieq_eq]⟩
  case neq => exact ⟨_, _, hk, .bool _, by simp [binOp, Op.intCmp, ieq_eq, bne]⟩
  case lss => exact ⟨_, _, hk, .bool _, by simp [binOp, Op.intCmp, ilt_eq]⟩
  case leq => exact ⟨_, _, hk, .bool _, by simp [binOp, Op.intCmp, ile_eq]⟩
  case gtr => exact ⟨_, _, hk, .bool _, by simp [binOp, Op.intCmp, ilt_eq]⟩
  case geq => exact ⟨_, _, hk, .bool _, by simp [binOp, Op.intCmp, ile_eq]⟩
  all_goals first | exact absurd rfl h1 | exact absurd rfl h2
theorem run_eqGuard {op : BinOp} {ty : TypeId} {x y : Operand} {u v : Value} (h1 : ¬ (u = .nilIface ∧ v = .nilIface)) (h2 : ∀ c d, ¬ (u = .agg c ∧ v = .agg d)) : (eqGuard op ty x y u v).run P w = .ok () w := by
  cases op
  case eql => cases u <;> cases v <;> first | rfl | exact absurd ⟨rfl, rfl⟩ h1 | exact absurd ⟨rfl, rfl⟩ (h2 _ _)
  case neq => cases u <;> cases v <;> first | rfl | exact absurd ⟨rfl, rfl⟩ h1 | exact absurd ⟨rfl, rfl⟩ (h2 _ _)
  all_goals rfl
theorem run_equalIn (n : Nat) {ty : TypeId} {x y : Value} {b : Bool} {d : TypeDesc} (hu : P.underlying ty = some d)
    (h : ((match d, x, y with
      | .bool, .bool a, .bool b => some (a == b)
      | .string, .string a, .string b => some (a == b)
      | .pointer _, .pointer none, .pointer none => some true
      | .pointer _, .pointer none, .pointer (some _) => some false
      | .pointer _, .pointer (some _), .pointer none => some false
      | .interface _, .nilIface, .iface _ _ | .interface _, .iface _ _, .nilIface => some false
      | .slice _, .slice none _ _, .slice none _ _ => some true
      | .slice _, .slice none _ _, .slice (some _) _ _ => some false
      | .slice _, .slice (some _) _ _, .slice none _ _ => some false
      | .map _ _, .map none, .map none => some true
      | .map _ _, .map none, .map (some _) => some false
      | .map _ _, .map (some _), .map none => some false
      | .func _ _ _, .nilFunc, .nilFunc => some true
      | .func _ _ _, .nilFunc, .func _ _ _ | .func _ _ _, .func _ _ _, .nilFunc => some false
      | _, _, _ => none) : Option Bool) = some b) : (Op.equalIn (n + 1) ty x y).run P w = .ok b w := by
  simp only [Op.equalIn, Sem.run_bind, run_under hu, Result.andThen]
  split at h <;> first | (cases h; done) | (injection h with h; subst h; rfl)
theorem veq_ok {ty : TypeId} {x y : V} {b : Bool} {xv yv : Value} (hk : veq P ty x y = some b) (hx : VR e x xv) (hy : VR e y yv) :
    (Op.equal ty xv yv).run P w = .ok b w ∧ ¬ (xv = .nilIface ∧ yv = .nilIface) ∧ (∀ c d, ¬ (xv = .agg c ∧ yv = .agg d)) ∧ (binOp .eql ty xv yv = (do pure (.bool (← Op.equal ty xv yv)))) ∧ (binOp .neq ty xv yv = (do pure (.bool (!(← Op.equal ty xv yv))))) := by
  unfold veq at hk
  split at hk
  all_goals first
    | (cases hk; done)
    | (rename_i hu; cases hx <;> cases hy <;> exact ⟨run_equalIn 9999 hu hk, by simp, by simp, rfl, rfl⟩)
theorem ishl_eq (k : IntKind) (a : Int) (n : Nat) : ishl k a n = k.wrap (a * 2 ^ n) := by
  have h2 : ((2 ^ n : Nat) : Int) = (2 : Int) ^ n := by push_cast; rfl
  rw [← h2]
  cases a with
  | ofNat a => exact iwrap_eq k _
  | negSucc a => exact iwrap_eq k _
theorem ishr_eq (a : Int) (n : Nat) : ishr a n = a.fdiv (2 ^ n) := by
  have h2 : ((2 ^ n : Nat) : Int) = (2 : Int) ^ n := by push_cast; rfl
  rw [← h2]
  have hp : 0 < 2 ^ n := Nat.two_pow_pos n
  cases a with
  | ofNat a =>
    show Int.ofNat (a / 2 ^ n) = _
    generalize 2 ^ n = m at *
    cases a <;> cases m <;> first | omega | rfl | simp [Int.fdiv]
  | negSucc a =>
    show Int.negSucc (a / 2 ^ n) = _
    generalize 2 ^ n = m at *
    cases m <;> first | omega | rfl
/-- An operator. -/
theorem vbin_ok {op : BinOp} {ty : TypeId} {x y : V} {f : V → RO} {xo yo : Operand} (hk : vbin P op ty x y f = r) (hr : r.good) {xv yv : Value} (hx : VR e x xv) (hy : VR e y yv) :
    ∃ v z, f v = r ∧ VR e v z ∧ (do eqGuard op ty xo yo xv yv; binOp op ty xv yv : Sem Value).run P w = .ok z w := by
  have viaG : ∀ {z : Value}, ¬ (xv = .nilIface ∧ yv = .nilIface) → (∀ c d, ¬ (xv = .agg c ∧ yv = .agg d)) → (binOp op ty xv yv).run P w = .ok z w → (do eqGuard op ty xo yo xv yv; binOp op ty xv yv : Sem Value).run P w = .ok z w := fun h1 h2 h3 => by
    rw [Sem.run_bind, run_eqGuard h1 h2]; exact h3
  unfold vbin at hk
  split at hk
  · rename_i k1 a k2 b
    cases hx; cases hy
    split at hk
    · split at hk
      · rename_i n
        refine ⟨_, _, hk, .int _ _, viaG (by simp) (by simp) ?_⟩
        have hn : ¬ ((n : Int) < 0) := by omega
        simp [binOp, Op.shift, hn, ishl_eq, imin_eq, ibits_eq]
      · subst hk; cases hr
    · split at hk
      · rename_i n
        refine ⟨_, _, hk, .int _ _, viaG (by simp) (by simp) ?_⟩
        have hn : ¬ ((n : Int) < 0) := by omega
        simp [binOp, Op.shift, hn, ishr_eq, imin_eq, ibits_eq]
      · subst hk; cases hr
    · rename_i h1 h2
      obtain ⟨hkk, hk'⟩ := bif_ok hk (by simp [RO.good]) hr
      have := keq_eq hkk
      subst this
      obtain ⟨v, z, g1, g2, g3⟩ := ibin_ok (P := P) (e := e) (w := w) (ty := ty) hk' hr (fun h => h1 h) (fun h => h2 h)
      exact ⟨v, z, g1, g2, viaG (by simp) (by simp) g3⟩
  · rename_i a b
    cases hx; cases hy
    split at hk
    · obtain ⟨hle, hk⟩ := bif_ok hk (by simp [RO.good]) hr
      have hle := Nat.le_of_ble_eq_true hle
      refine ⟨_, _, hk, .str _, viaG (by simp) (by simp) ?_⟩
      have hm : ¬ (((a.size + b.size : Nat) : Int) > IntKind.i64.max) := by
        have : IntKind.i64.max = 9223372036854775807 := by decide
        rw [this]; omega
      simp only [binOp, Op.stringOp, if_neg hm]
      rfl
    · exact ⟨_, _, hk, .bool _, viaG (by simp) (by simp) rfl⟩
    · exact ⟨_, _, hk, .bool _, viaG (by simp) (by simp) rfl⟩
    · subst hk; cases hr
  · split at hk
    · split at hk
      · rename_i b hb
        obtain ⟨g1, g2, g3, g4, _⟩ := veq_ok (w := w) hb hx hy
        refine ⟨_, _, hk, .bool b, viaG g2 g3 ?_⟩
        rw [g4]; simp [g1, Result.andThen]
      · subst hk; cases hr
    · split at hk
      · rename_i b hb
        obtain ⟨g1, g2, g3, _, g4⟩ := veq_ok (w := w) hb hx hy
        refine ⟨_, _, hk, .bool (!b), viaG g2 g3 ?_⟩
        rw [g4]; simp [g1, Result.andThen]
      · subst hk; cases hr
    · subst hk; cases hr
theorem oBin_pure {op : BinOp} {ty yt : TypeId} {x y : Operand} (hk : oBin op ty x y yt P pr ih t h s k = r) (hr : r.good) (ha : AR D e t a) (hs : Sim e h w) (ho : o.op = .binOp op ty x y yt) : PureOk P e s h w a o k r := by
  obtain ⟨v, hk, hv⟩ := opnd_ok (a := a) hk hr ha
  obtain ⟨u, hk, hu⟩ := opnd_ok (a := a) hk hr ha
  obtain ⟨z, zv, g1, g2, g3⟩ := vbin_ok (w := w) (xo := x) (yo := y) hk hr hv hu
  refine ⟨z, _, g1, g2, ?_⟩
  simp only [execOp, ho]
  exact run_v g3
theorem isub0 (n : Int) : Int.sub (Int.ofNat 0) n = -n := by show (0 : Int) - n = -n; omega
theorem oUn_pure {op : UnOp} {ty : TypeId} {x : Operand} (hk : oUn op ty x P pr ih t h s k = r) (hr : r.good) (ha : AR D e t a) (hs : Sim e h w) (ho : o.op = .unOp op ty x) : PureOk P e s h w a o k r := by
  obtain ⟨v, hk, hv⟩ := opnd_ok (a := a) hk hr ha
  generalize hc : a.eval x = cv at hv
  split at hk
  · cases hv
    exact ⟨_, _, hk, (.bool _), by simp [execOp, ho, hc, Op.unary]⟩
  · cases hv
    rw [isub0] at hk
    exact ⟨_, _, hk, (.int _ _), by simp [execOp, ho, hc, Op.unary, Op.intArith, iwrap_eq]⟩
  · subst hk; cases hr
theorem oConvert_pure {src dst : TypeId} {x : Operand} (hk : oConvert src dst x P pr ih t h s k = r) (hr : r.good) (ha : AR D e t a) (hs : Sim e h w) (ho : o.op = .convert src dst x) : PureOk P e s h w a o k r := by
  obtain ⟨v, hk, hv⟩ := opnd_ok (a := a) hk hr ha
  generalize hc : a.eval x = cv at hv
  split at hk
  · rename_i hd hu
    cases hv
    refine ⟨_, _, hk, (.int _ _), ?_⟩
    simp [execOp, ho, hc, convert, run_under hd, run_under hu, Result.andThen, Conv.intToInt, iwrap_eq]
  · subst hk; cases hr
end Go.Ev
