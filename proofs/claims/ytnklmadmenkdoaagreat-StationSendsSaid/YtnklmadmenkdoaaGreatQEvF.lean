/- An evaluator of the model's code, sixth part: the laws of the operators. -/
import Derived.Test.YtnklmadmenkdoaaGreatQEvE
import Derived.Laws.BytesString
import Derived.Laws.StructEq
set_option linter.unusedVariables false
set_option linter.unusedSimpArgs false
namespace Go.Ev
variable {D : List Deferred}
variable {P : Program} {pr : Prims} {ih : Rn} {e : Env} {t : T V} {h : H} {s : Nat} {w : World} {a : Act} {r : RO} {k : K} {o : Oper}
theorem wrap64_of {n : Int} (h1 : -9223372036854775808 ≤ n) (h2 : n ≤ 9223372036854775807) : IntKind.wrap .i64 n = n := by
  have e1 : (2 : Int) ^ 64 = 18446744073709551616 := by decide
  have e2 : (2 : Int) ^ 63 = 9223372036854775808 := by decide
  simp only [IntKind.wrap, IntKind.bits, IntKind.signed, Bool.true_and, Nat.reduceSub, e1, e2]
  by_cases h : n % 18446744073709551616 ≥ 9223372036854775808
  · rw [if_pos (by simpa using h)]; omega
  · rw [if_neg (by simpa using h)]; omega
theorem wrapU {k : IntKind} (hk : k.signed = false) {a m : Nat} (hm : m = 2 ^ k.bits) : IntKind.wrap k (.ofNat a) = .ofNat (a % m) := by
  subst hm
  simp only [IntKind.wrap, hk, Bool.false_and, Bool.false_eq_true, if_false, Int.ofNat_eq_natCast]
  push_cast
  rfl
theorem iwrap_eq (k : IntKind) (n : Int) : iwrap k n = k.wrap n := by
  unfold iwrap
  split
  · rename_i a
    cases h : Nat.ble a 9223372036854775807 with
    | false => rw [cond_false]
    | true =>
      have := Nat.le_of_ble_eq_true h
      rw [cond_true, wrap64_of (by simp only [Int.ofNat_eq_natCast]; omega) (by simp only [Int.ofNat_eq_natCast]; omega)]
  · rename_i a
    cases h : Nat.ble a 9223372036854775807 with
    | false => rw [cond_false]
    | true =>
      have := Nat.le_of_ble_eq_true h
      rw [cond_true, wrap64_of (by simp only [Int.negSucc_eq]; omega) (by simp only [Int.negSucc_eq]; omega)]
  · exact (wrapU (k := .u8) (m := 256) rfl rfl).symm
  · exact (wrapU (k := .u16) (m := 65536) rfl rfl).symm
  · exact (wrapU (k := .u32) (m := 4294967296) rfl rfl).symm
  · exact (wrapU (k := .u64) (m := 18446744073709551616) rfl rfl).symm
  · rfl
theorem ble_eq (a b : Nat) : Nat.ble a b = decide (a ≤ b) := by
  cases h : Nat.ble a b with
  | true => simpa using Nat.le_of_ble_eq_true h
  | false => simpa using Nat.not_le_of_not_ble_eq_true (by simp [h])
theorem beq_eq (a b : Nat) : Nat.beq a b = decide (a = b) := by
  cases h : Nat.beq a b with
  | true => simpa using Nat.eq_of_beq_eq_true h
  | false => simpa using Nat.ne_of_beq_eq_false h
theorem ilt_eq (a b : Int) : ilt a b = decide (a < b) := by
  cases a <;> cases b <;> simp only [ilt, ble_eq, Int.ofNat_eq_natCast, Int.negSucc_eq] <;> (try rw [decide_eq_decide]) <;> simp <;> omega
theorem ile_eq (a b : Int) : ile a b = decide (a ≤ b) := by
  cases a <;> cases b <;> simp only [ile, ble_eq, Int.ofNat_eq_natCast, Int.negSucc_eq] <;> (try rw [decide_eq_decide]) <;> simp <;> omega
theorem ieq_eq (a b : Int) : ieq a b = (a == b) := by
  have hd : (a == b) = decide (a = b) := rfl
  rw [hd]
  cases a <;> cases b <;> simp only [ieq, beq_eq, Int.ofNat_eq_natCast, Int.negSucc_eq] <;> first | (rw [decide_eq_decide]; omega) | (symm; rw [decide_eq_false_iff_not]; omega)
theorem iadd_eq (a b : Int) : iadd a b = a + b := by
  cases a <;> cases b <;> rfl
theorem iquo_eq (a b : Int) : iquo a b = a.tdiv b := by cases a <;> cases b <;> rfl
theorem irem_eq (a b : Int) : irem a b = a.tmod b := by cases a <;> cases b <;> rfl
theorem imod_eq (k : IntKind) : imod k = 2 ^ k.bits := by cases k <;> rfl
theorem ibits_eq (k : IntKind) : ibits k = k.bits := by cases k <;> rfl
theorem imin_eq (a b : Nat) : imin a b = min a b := by
  unfold imin
  cases h : Nat.ble a b with
  | true => have := Nat.le_of_ble_eq_true h; simp; omega
  | false => have : ¬ a ≤ b := Nat.not_le_of_not_ble_eq_true (by simp [h]); rw [cond_false]; omega
theorem iuns_eq (n : Nat) (a : Int) : iuns (2 ^ n) a = (BitVec.ofInt n a).toNat := by
  rw [BitVec.toNat_ofInt]
  have hp : 0 < 2 ^ n := Nat.two_pow_pos n
  cases a with
  | ofNat a =>
    show a % 2 ^ n = _
    show a % 2 ^ n = ((a : Int) % ((2 ^ n : Nat) : Int)).toNat
    rw [← Int.natCast_emod]; exact (Int.toNat_natCast _).symm
  | negSucc a =>
    show 2 ^ n - 1 - a % 2 ^ n = _
    have hlt := Nat.mod_lt a hp
    have hd := Nat.div_add_mod a (2 ^ n)
    have key : (Int.negSucc a) % ((2 ^ n : Nat) : Int) = ((2 ^ n - 1 - a % 2 ^ n : Nat) : Int) := by
      have e1 : Int.negSucc a = ((2 ^ n - 1 - a % 2 ^ n : Nat) : Int) + ((2 ^ n : Nat) : Int) * (-((a / 2 ^ n : Nat) : Int) - 1) := by
        have h2 : ((2 ^ n - 1 - a % 2 ^ n : Nat) : Int) = ((2 ^ n : Nat) : Int) - 1 - ((a % 2 ^ n : Nat) : Int) := by omega
        have h3 : (a : Int) = ((2 ^ n : Nat) : Int) * ((a / 2 ^ n : Nat) : Int) + ((a % 2 ^ n : Nat) : Int) := by exact_mod_cast hd.symm
        rw [h2, Int.negSucc_eq, Int.mul_sub, Int.mul_neg, Int.mul_one]
        omega
      rw [e1, Int.add_mul_emod_self_left]
      exact Int.emod_eq_of_lt (by omega) (by omega)
    show _ = ((Int.negSucc a) % ((2 ^ n : Nat) : Int)).toNat
    rw [key]; simp
theorem keq_eq {a b : IntKind} (h : keq a b = true) : a = b := by cases a <;> cases b <;> first | rfl | cases h
theorem ibin_ok {op : BinOp} {kd : IntKind} {x y : Int} {ty : TypeId} {f : V → RO} (hk : ibin op kd x y f = r) (hr : r.good) (h1 : op ≠ .shl) (h2 : op ≠ .shr) :
    ∃ v z, f v = r ∧ VR e v z ∧ (binOp op ty (.int kd x) (.int kd y)).run P w = .ok z w := by
  cases op <;> simp only [ibin] at hk
  case add => exact ⟨_, _, hk, .int _ _, by simp [binOp, Op.intArith, iwrap_eq, iadd_eq]⟩
  case sub => exact ⟨_, _, hk, .int _ _, by simp [binOp, Op.intArith, iwrap_eq]; rfl⟩
  case mul => exact ⟨_, _, hk, .int _ _, by simp [binOp, Op.intArith, iwrap_eq]⟩
  case quo =>
    cases hz : ieq y (.ofNat 0) with
    | true => rw [hz] at hk; simp only [cond_true] at hk; subst hk; cases hr
    | false =>
      rw [hz] at hk
      rw [ieq_eq] at hz
      have hne : y ≠ 0 := by simpa using hz
      exact ⟨_, _, hk, .int _ _, by simp [binOp, Op.intDiv, hne, iwrap_eq, iquo_eq]⟩
  case rem =>
    cases hz : ieq y (.ofNat 0) with
    | true => rw [hz] at hk; simp only [cond_true] at hk; subst hk; cases hr
    | false =>
      rw [hz] at hk
      rw [ieq_eq] at hz
      have hne : y ≠ 0 := by simpa using hz
      exact ⟨_, _, hk, .int _ _, by simp [binOp, Op.intDiv, hne, irem_eq]⟩
  case and => exact ⟨_, _, hk, .int _ _, by simp [binOp, Op.intBits, iwrap_eq, imod_eq, iuns_eq]⟩
  case or => exact ⟨_, _, hk, .int _ _, by simp [binOp, Op.intBits, iwrap_eq, imod_eq, iuns_eq]⟩
  case xor => exact ⟨_, _, hk, .int _ _, by simp [binOp, Op.intBits, iwrap_eq, imod_eq, iuns_eq]⟩
  case andNot => exact ⟨_, _, hk, .int _ _, by simp [binOp, Op.intBits, iwrap_eq, imod_eq, iuns_eq]⟩
  case eql => exact ⟨_, _, hk, .bool _, by simp [binOp, Op.intCmp, ieq_eq]⟩
  case neq => exact ⟨_, _, hk, .bool _, by simp [binOp, Op.intCmp, ieq_eq, bne]⟩
  case lss => exact ⟨_, _, hk, .bool _, by simp [binOp, Op.intCmp, ilt_eq]⟩
  case leq => exact ⟨_, _, hk, .bool _, by simp [binOp, Op.intCmp, ile_eq]⟩
  case gtr => exact ⟨_, _, hk, .bool _, by simp [binOp, Op.intCmp, ilt_eq]⟩
  case geq => exact ⟨_, _, hk, .bool _, by simp [binOp, Op.intCmp, ile_eq]⟩
  all_goals first | exact absurd rfl h1 | exact absurd rfl h2
theorem run_eqGuard {op : BinOp} {ty : TypeId} {x y : Operand} {u v : Value} (h1 : ¬ (u = .nilIface ∧ v = .nilIface)) (h2 : ∀ c d, ¬ (u = .agg c ∧ v = .agg d)) : (eqGuard op ty x y u v).run P w = .ok () w := by
  cases op
  case eql => cases u <;> cases v <;> first | rfl | exact absurd ⟨rfl, rfl⟩ h1 | exact absurd ⟨rfl, rfl⟩ (h2 _ _)
  case neq => cases u <;> cases v <;> first | rfl | exact absurd ⟨rfl, rfl⟩ h1 | exact absurd ⟨rfl, rfl⟩ (h2 _ _)
  all_goals rfl
theorem run_equalIn (n : Nat) {ty : TypeId} {x y : Value} {b : Bool} {d : TypeDesc} (hu : P.underlying ty = some d)
    (h : ((match d, x, y with
      | .bool, .bool a, .bool b => some (a == b)
      | .string, .string a, .string b => some (a == b)
      | .pointer _, .pointer none, .pointer none => some true
      | .pointer _, .pointer none, .pointer (some _) => some false
      | .pointer _, .pointer (some _), .pointer none => some false
      | .interface _, .nilIface, .iface _ _ | .interface _, .iface _ _, .nilIface => some false
      | .slice _, .slice none _ _, .slice none _ _ => some true
      | .slice _, .slice none _ _, .slice (some _) _ _ => some false
      | .slice _, .slice (some _) _ _, .slice none _ _ => some false
      | .map _ _, .map none, .map none => some true
      | .map _ _, .map none, .map (some _) => some false
      | .map _ _, .map (some _), .map none => some false
      | .func _ _ _, .nilFunc, .nilFunc => some true
      | .func _ _ _, .nilFunc, .func _ _ _ | .func _ _ _, .func _ _ _, .nilFunc => some false
      | _, _, _ => none) : Option Bool) = some b) : (Op.equalIn (n + 1) ty x y).run P w = .ok b w := by
  simp only [Op.equalIn, Sem.run_bind, run_under hu, Result.andThen]
  split at h <;> first | (cases h; done) | (injection h with h; subst h; rfl)
theorem veq_ok {ty : TypeId} {x y : V} {b : Bool} {xv yv : Value} (hk : veq P ty x y = some b) (hx : VR e x xv) (hy : VR e y yv) :
    (Op.equal ty xv yv).run P w = .ok b w ∧ ¬ (xv = .nilIface ∧ yv = .nilIface) ∧ (∀ c d, ¬ (xv = .agg c ∧ yv = .agg d)) ∧ (binOp .eql ty xv yv = (do pure (.bool (← Op.equal ty xv yv)))) ∧ (binOp .neq ty xv yv = (do pure (.bool (!(← Op.equal ty xv yv))))) := by
  unfold veq at hk
  split at hk
  all_goals first
    | (cases hk; done)
    | (rename_i hu; cases hx <;> cases hy <;> exact ⟨run_equalIn 9999 hu hk, by simp, by simp, rfl, rfl⟩)
theorem ishl_eq (k : IntKind) (a : Int) (n : Nat) : ishl k a n = k.wrap (a * 2 ^ n) := by
  have h2 : ((2 ^ n : Nat) : Int) = (2 : Int) ^ n := by push_cast; rfl
  rw [← h2]
  cases a with
  | ofNat a => exact iwrap_eq k _
  | negSucc a => exact iwrap_eq k _
theorem ishr_eq (a : Int) (n : Nat) : ishr a n = a.fdiv (2 ^ n) := by
  have h2 : ((2 ^ n : Nat) : Int) = (2 : Int) ^ n := by push_cast; rfl
  rw [← h2]
  have hp : 0 < 2 ^ n := Nat.two_pow_pos n
  cases a with
  | ofNat a =>
    show Int.ofNat (a / 2 ^ n) = _
    generalize 2 ^ n = m at *
    cases a <;> cases m <;> first | omega | rfl | simp [Int.fdiv]
  | negSucc a =>
    show Int.negSucc (a / 2 ^ n) = _
    generalize 2 ^ n = m at *
    cases m <;> first | omega | rfl
/-- An operator. -/
theorem ba_beq (a b : ByteArray) : (a == b) = (a.data == b.data) := by
  cases a; cases b; first | rfl | (show ByteArray.beq _ _ = _; unfold ByteArray.beq; rfl)
theorem ba_eq {a b : ByteArray} (h : (a == b) = true) : a = b := by
  rw [ba_beq] at h
  have := eq_of_beq h
  cases a; cases b; simp_all
theorem ba_refl (a : ByteArray) : (a == a) = true := by rw [ba_beq]; simp
theorem run_part1 {ty : TypeId} {d : TypeDesc} (hu : P.underlying ty = some d) (h1 : ∀ fs, d ≠ .struct fs) (h2 : ∀ n t, d ≠ .array n t) (p : List Value) (x : Value) (xs : List Value) : (part ty ⟨p ++ x :: xs⟩ p.length).run P w = .ok x w := by
  cases d <;> first | exact absurd rfl (h1 _) | exact absurd rfl (h2 _ _) | (simp [part, run_isAgg hu, Result.andThen, dAgg]; done)
theorem eqInt (k : IntKind) (m n : Int) (hb : ieq m n = true) : Value.int k m = Value.int k n := by
  rw [ieq_eq] at hb
  have : m = n := by simpa using hb
  rw [this]
theorem sEq_ok : ∀ {fs : List Field} {i : Nat} {a b : List V} {r : Bool} (d : Nat) {p q xs ys : List Value}, sEq P fs i a b = some r → VRs e a xs → VRs e b ys → p.length = i → q.length = i →
    (Op.eqFields (d + 1) ⟨p ++ xs⟩ ⟨q ++ ys⟩ fs).run P w = .ok r w ∧ (r = true → xs = ys)
  | [], i, [], [], r, d, p, q, _, _, h, .nil, .nil, hp, hq => by
    unfold sEq at h
    injection h with h
    subst h
    exact ⟨by simp [Op.eqFields], fun _ => rfl⟩
  | f :: fs, i, x :: a, y :: b, r, d, p, q, _, _, h, .cons (x := xv) (l := _) (xs := xs) hx ha, .cons (x := yv) (xs := ys) hy hb, hp, hq => by
    unfold sEq at h
    cases hc : (f.name == "_" || !(Nat.beq f.offset i)) with
    | true => rw [hc] at h; cases h
    | false =>
      rw [hc] at h
      simp only [cond_false] at h
      simp only [Bool.or_eq_false_iff, Bool.not_eq_false'] at hc
      obtain ⟨hn, ho⟩ := hc
      have ho' : f.offset = i := Nat.eq_of_beq_eq_true ho
      have hn' : f.name ≠ "_" := by simpa using hn
      have fin : ∀ (bb : Bool) (r' : Bool), sEq P fs (Nat.succ i) a b = some r' → r = (bb && r') → (∀ w, (part f.type ⟨p ++ xv :: xs⟩ f.offset).run P w = .ok xv w) → (∀ w, (part f.type ⟨q ++ yv :: ys⟩ f.offset).run P w = .ok yv w) → (∀ w, (Op.equalIn (d + 1) f.type xv yv).run P w = .ok bb w) → (bb = true → xv = yv) →
          (Op.eqFields (d + 1) ⟨p ++ xv :: xs⟩ ⟨q ++ yv :: ys⟩ (f :: fs)).run P w = .ok r w ∧ (r = true → xv :: xs = yv :: ys) := by
        intro bb r' h1 h2 h3 h4 h5 h6
        obtain ⟨g1, g2⟩ := sEq_ok d (p := p ++ [xv]) (q := q ++ [yv]) h1 ha hb (by simp [hp]) (by simp [hq])
        simp only [List.append_assoc, List.cons_append, List.nil_append] at g1
        cases bb with
        | true =>
          simp only [Bool.true_and] at h2
          subst h2
          refine ⟨?_, fun hr => by rw [h6 rfl, g2 hr]⟩
          simp only [Op.eqFields, if_pos hn', Sem.run_bind, h3, h4, h5, Result.andThen, Bool.not_true, Bool.false_eq_true, if_false]
          exact g1
        | false =>
          simp only [Bool.false_and] at h2
          subst h2
          refine ⟨?_, fun hr => by cases hr⟩
          simp only [Op.eqFields, if_pos hn', Sem.run_bind, h3, h4, h5, Result.andThen, Bool.not_false, if_true, Sem.run_pure]
      split at h
      · rename_i k0 k m k' n hu
        cases hx; cases hy
        cases hkk : keq k k' with
        | false => rw [hkk] at h; cases h
        | true =>
          rw [hkk] at h
          simp only [cond_true] at h
          have := keq_eq hkk
          subst this
          split at h
          · rename_i r' hr'
            injection h with h
            exact fin (ieq m n) r' hr' h.symm (fun w => by rw [ho', ← hp]; exact run_part1 hu (by simp) (by simp) _ _ _) (fun w => by rw [ho', ← hq]; exact run_part1 hu (by simp) (by simp) _ _ _) (fun w => by rw [ieq_eq]; exact run_equalIn_int w d f.type k k0 m n hu) (eqInt k m n)
          · cases h
      · rename_i m n hu
        cases hx; cases hy
        split at h
        · rename_i r' hr'
          injection h with h
          rw [← beq_toListBytes] at h
          exact fin (m == n) r' hr' h.symm (fun w => by rw [ho', ← hp]; exact run_part1 hu (by simp) (by simp) _ _ _) (fun w => by rw [ho', ← hq]; exact run_part1 hu (by simp) (by simp) _ _ _) (fun w => by simp [Op.equalIn, Sem.run_bind, run_under hu, Result.andThen]) (fun hb => by rw [ba_eq hb])
        · cases h
      · cases h
  | [], _, _ :: _, _, _, _, _, _, _, _, h, _, _, _, _ => by simp [sEq] at h
  | [], _, [], _ :: _, _, _, _, _, _, _, h, _, _, _, _ => by simp [sEq] at h
  | _ :: _, _, [], _, _, _, _, _, _, _, h, _, _, _, _ => by simp [sEq] at h
  | _ :: _, _, _ :: _, [], _, _, _, _, _, _, h, _, _, _, _ => by simp [sEq] at h
theorem vagg_ok {op : BinOp} {ty : TypeId} {a b : List V} {f : V → RO} {xo yo : Operand} (hk : (match P.underlying ty with
    | some (.struct fs) => bif P.stoodInHeld ty || P.eqGuardType P.depth ty then .err 18 else (match sEq P fs.toList 0 a b with
      | some r => (match op with | .eql => f (.bool r) | .neq => f (.bool (not r)) | _ => .err 17)
      | none => .err 19)
    | _ => .err 20) = r) (hr : r.good) {xs ys : List Value} (hx : VRs e a xs) (hy : VRs e b ys) :
    ∃ v z, f v = r ∧ VR e v z ∧ (do eqGuard op ty xo yo (.agg ⟨xs⟩) (.agg ⟨ys⟩); binOp op ty (.agg ⟨xs⟩) (.agg ⟨ys⟩) : Sem Value).run P w = .ok z w := by
  split at hk
  · rename_i fs hu
    cases hc : (P.stoodInHeld ty || P.eqGuardType P.depth ty) with
    | true => rw [hc] at hk; simp only [cond_true] at hk; subst hk; cases hr
    | false =>
      rw [hc] at hk
      simp only [cond_false] at hk
      simp only [Bool.or_eq_false_iff] at hc
      have hfs : P.fieldsOf ty = fs := by simp [Program.fieldsOf, hu]
      split at hk
      · rename_i rr hs
        obtain ⟨g1, _⟩ := sEq_ok (w := w) 9998 (p := []) (q := []) hs hx hy rfl rfl
        simp only [List.nil_append] at g1
        have hg := run_eqGuard_agg (P := P) w op ty xo yo ⟨xs⟩ ⟨ys⟩ hc.2
        have he : (Op.equalIn 10000 ty (.agg ⟨xs⟩) (.agg ⟨ys⟩)).run P w = .ok rr w := by
          rw [show 10000 = 9999 + 1 from rfl, run_equalIn_struct w 9999 ty ⟨xs⟩ ⟨ys⟩ (by rw [hfs]; exact hu) hc.1, hfs]
          exact g1
        split at hk
        · refine ⟨_, _, hk, .bool _, ?_⟩
          rw [Sem.run_bind, hg]
          simp only [Result.andThen]
          rw [run_eql_struct, he]
          rfl
        · refine ⟨_, _, hk, .bool _, ?_⟩
          rw [Sem.run_bind, hg]
          simp only [Result.andThen]
          rw [run_neq_struct, he]
          rfl
        · subst hk; cases hr
      · subst hk; cases hr
  · subst hk; cases hr
def cmpB (op : BinOp) (m n : Int) : Bool := match op with | .lss => decide (m < n) | .leq => decide (m ≤ n) | .gtr => decide (n < m) | .geq => decide (n ≤ m) | .eql => m == n | .neq => !(m == n) | _ => false
theorem run_cmp {op : BinOp} {kd : IntKind} {x y : Int} {ty : TypeId} (h : isCmp op = true) : (binOp op ty (.int kd x) (.int kd y)).run P w = .ok (.bool (cmpB op x y)) w := by
  cases op <;> first | (cases h; done) | simp [binOp, Op.intCmp, cmpB, bne]
theorem bif2 {c d : Bool} {x y r : Bool} (h : (bif c then some x else bif d then some y else none) = some r) : (c = true ∧ r = x) ∨ (d = true ∧ r = y) := by
  cases c with
  | true => injection h with h; exact .inl ⟨rfl, h.symm⟩
  | false => cases d with
    | true => injection h with h; exact .inr ⟨rfl, h.symm⟩
    | false => cases h
theorem ivcmp_ok {op : BinOp} {a a' b b' m n : Int} {r : Bool} (h : ivcmp op a a' b b' = some r) (h1 : a ≤ m) (h2 : m ≤ a') (h3 : b ≤ n) (h4 : n ≤ b') : isCmp op = true ∧ cmpB op m n = r := by
  cases op <;> simp only [ivcmp] at h
  case lss => refine ⟨rfl, ?_⟩; rcases bif2 h with ⟨hc, rfl⟩ | ⟨hc, rfl⟩ <;> simp only [ilt_eq, ile_eq, decide_eq_true_eq] at hc <;> simp [cmpB] <;> omega
  case leq => refine ⟨rfl, ?_⟩; rcases bif2 h with ⟨hc, rfl⟩ | ⟨hc, rfl⟩ <;> simp only [ilt_eq, ile_eq, decide_eq_true_eq] at hc <;> simp [cmpB] <;> omega
  case gtr => refine ⟨rfl, ?_⟩; rcases bif2 h with ⟨hc, rfl⟩ | ⟨hc, rfl⟩ <;> simp only [ilt_eq, ile_eq, decide_eq_true_eq] at hc <;> simp [cmpB] <;> omega
  case geq => refine ⟨rfl, ?_⟩; rcases bif2 h with ⟨hc, rfl⟩ | ⟨hc, rfl⟩ <;> simp only [ilt_eq, ile_eq, decide_eq_true_eq] at hc <;> simp [cmpB] <;> omega
  case eql => refine ⟨rfl, ?_⟩; rcases bif2 h with ⟨hc, rfl⟩ | ⟨hc, rfl⟩ <;> simp only [ilt_eq, ile_eq, decide_eq_true_eq] at hc <;> simp [cmpB] <;> omega
  case neq => refine ⟨rfl, ?_⟩; rcases bif2 h with ⟨hc, rfl⟩ | ⟨hc, rfl⟩ <;> simp only [ilt_eq, ile_eq, decide_eq_true_eq] at hc <;> simp [cmpB] <;> omega
  all_goals cases h
theorem ivbin_ok {op : BinOp} {k1 k2 : IntKind} {a a' b b' m n : Int} {ty : TypeId} {f : V → RO} (hk : ivbin op k1 k2 a a' b b' f = r) (hr : r.good) (h1 : a ≤ m) (h2 : m ≤ a') (h3 : b ≤ n) (h4 : n ≤ b') :
    ∃ v z, f v = r ∧ VR e v z ∧ (binOp op ty (.int k1 m) (.int k2 n)).run P w = .ok z w := by
  unfold ivbin at hk
  obtain ⟨hkk, hk2⟩ := bif_ok hk (by simp [RO.good]) hr
  clear hk
  have := keq_eq hkk
  subst this
  split at hk2
  · rename_i r hc
    obtain ⟨g1, g2⟩ := ivcmp_ok hc h1 h2 h3 h4
    exact ⟨_, _, hk2, .bool r, by rw [run_cmp g1, g2]⟩
  · split at hk2
    · obtain ⟨hq, hk2⟩ := bif_ok hk2 (by simp [RO.good]) hr
      simp only [Bool.and_eq_true, ile_eq, ilt_eq, ieq_eq, decide_eq_true_eq, beq_iff_eq] at hq
      obtain ⟨q1, q2, q3⟩ := hq
      have hn : n = b := by omega
      have hm0 : 0 ≤ m := by omega
      have ht : Int.tmod m b = m % b := Int.tmod_eq_emod_of_nonneg hm0
      have hb1 : 0 ≤ m % b := Int.emod_nonneg _ (by omega)
      have hb2 : m % b < b := Int.emod_lt_of_pos _ q2
      refine ⟨_, .int k1 (Int.tmod m b), hk2, .iv (by rw [ht]; exact hb1) (by rw [ht]; show m % b ≤ b - 1; omega), ?_⟩
      rw [hn]
      have hb0 : ¬ b = 0 := by omega
      simp [binOp, Op.intDiv, hb0]
    · subst hk2; cases hr
/-- A comparison that hangs on what is not known. -/
theorem undet_ok {op : BinOp} {k1 k2 : IntKind} {a a' b b' m n : Int} {ty : TypeId} (h : undet op k1 k2 a a' b b' = true) : ∃ r, (binOp op ty (.int k1 m) (.int k2 n)).run P w = .ok (.bool r) w := by
  unfold undet at h
  cases hc : isCmp op with
  | false => rw [hc] at h; cases h
  | true =>
    rw [hc] at h
    cases hk : keq k1 k2 with
    | false => rw [hk] at h; cases h
    | true =>
      have := keq_eq hk
      subst this
      exact ⟨_, run_cmp hc⟩
theorem opNo_eq {a b : BinOp} (h : Nat.beq (opNo a) (opNo b) = true) (h1 : Nat.ble 1 (opNo a) = true) : a = b := by
  cases a <;> cases b <;> first | rfl | (exact absurd h (by decide)) | (exact absurd h1 (by decide))
theorem leqL_eq : ∀ {l m : List Nat}, leqL l m = true → l = m
  | [], [], _ => rfl
  | [], _ :: _, h => by cases h
  | _ :: _, [], h => by cases h
  | x :: l, y :: m, h => by
    have h' : (bif Nat.beq x y then leqL l m else false) = true := h
    cases hx : Nat.beq x y with
    | false => rw [hx] at h'; cases h'
    | true => rw [hx] at h'; rw [Nat.eq_of_beq_eq_true hx, leqL_eq (l := l) h']
theorem sxeq_eq : ∀ {a b : SX}, sxeq a b = true → a = b
  | .sym i, b, h => by
    cases b <;> first | (cases h; done) | skip
    have : i = _ := Nat.eq_of_beq_eq_true h
    rw [this]
  | .lit i, b, h => by
    cases b <;> first | (cases h; done) | skip
    rename_i j
    have h' : ieq i j = true := h
    rw [ieq_eq] at h'
    have : i = j := by simpa using h'
    rw [this]
  | .bin op k x y, b, h => by
    cases b <;> first | (cases h; done) | skip
    rename_i op' k' x' y'
    have h' : (bif Nat.beq (opNo op) (opNo op') && Nat.ble 1 (opNo op) && keq k k' then (bif sxeq x x' then sxeq y y' else false) else false) = true := h
    cases hc : (Nat.beq (opNo op) (opNo op') && Nat.ble 1 (opNo op) && keq k k') with
    | false => rw [hc] at h'; cases h'
    | true =>
      rw [hc] at h'
      simp only [cond_true] at h'
      simp only [Bool.and_eq_true] at hc
      cases hx : sxeq x x' with
      | false => rw [hx] at h'; cases h'
      | true =>
        rw [hx] at h'
        rw [sxeq_eq hx, sxeq_eq (a := y) h', opNo_eq hc.1.1 hc.1.2, keq_eq hc.2]
  | .shl k x n, b, h => by
    cases b <;> first | (cases h; done) | skip
    rename_i k' x' n'
    have h' : (bif Nat.beq n n' && keq k k' then sxeq x x' else false) = true := h
    cases hc : (Nat.beq n n' && keq k k') with
    | false => rw [hc] at h'; cases h'
    | true =>
      rw [hc] at h'
      simp only [Bool.and_eq_true] at hc
      rw [sxeq_eq (a := x) h', Nat.eq_of_beq_eq_true hc.1, keq_eq hc.2]
  | .shr x n, b, h => by
    cases b <;> first | (cases h; done) | skip
    rename_i x' n'
    have h' : (bif Nat.beq n n' then sxeq x x' else false) = true := h
    cases hc : (Nat.beq n n') with
    | false => rw [hc] at h'; cases h'
    | true =>
      rw [hc] at h'
      rw [sxeq_eq (a := x) h', Nat.eq_of_beq_eq_true hc]
  | .cnv k x, b, h => by
    cases b <;> first | (cases h; done) | skip
    rename_i k' x'
    have h' : (bif keq k k' then sxeq x x' else false) = true := h
    cases hc : (keq k k') with
    | false => rw [hc] at h'; cases h'
    | true =>
      rw [hc] at h'
      rw [sxeq_eq (a := x) h', keq_eq hc]
  | .lin c l, b, h => by
    cases b <;> first | (cases h; done) | skip
    rename_i c' l'
    have h' : (bif ieq c c' then leqL l l' else false) = true := h
    cases hc : ieq c c' with
    | false => rw [hc] at h'; cases h'
    | true =>
      rw [hc] at h'
      rw [ieq_eq] at hc
      have hcc : c = c' := by simpa using hc
      rw [hcc, leqL_eq h']
theorem sxeqs_eq : ∀ {a b : List SX}, sxeqs a b = true → a = b
  | [], [], _ => rfl
  | [], _ :: _, h => by cases h
  | _ :: _, [], h => by cases h
  | x :: a, y :: b, h => by
    have h' : (bif sxeq x y then sxeqs a b else false) = true := h
    cases hx : sxeq x y with
    | false => rw [hx] at h'; cases h'
    | true => rw [hx] at h'; rw [sxeq_eq hx, sxeqs_eq (a := a) h']
theorem wrap_wrap (k : IntKind) (n : Int) : k.wrap (k.wrap n) = k.wrap n := by
  have key : ∀ m hh : Int, (if decide ((if decide (n % m ≥ hh) = true then n % m - m else n % m) % m ≥ hh) = true then (if decide (n % m ≥ hh) = true then n % m - m else n % m) % m - m else (if decide (n % m ≥ hh) = true then n % m - m else n % m) % m) = if decide (n % m ≥ hh) = true then n % m - m else n % m := by
    intro m hh
    have h1 : (n % m - m) % m = n % m := by rw [Int.sub_emod, Int.emod_self, Int.sub_zero, Int.emod_emod, Int.emod_emod]
    by_cases h : decide (n % m ≥ hh) = true
    · rw [if_pos h, h1, if_pos h]
    · rw [if_neg h, Int.emod_emod, if_neg h]
  cases k <;> simp only [IntKind.wrap, IntKind.bits, IntKind.signed, Bool.true_and, Bool.false_and, Bool.false_eq_true, if_false]
  · exact key (2 ^ 8) (2 ^ 7)
  · exact key (2 ^ 16) (2 ^ 15)
  · exact key (2 ^ 32) (2 ^ 31)
  · exact key (2 ^ 64) (2 ^ 63)
  all_goals exact Int.emod_emod _ _
/-- The small numbers. -/
def Smalls (ρ : Nat → Int) : Prop := ∀ j, 1000000 ≤ j → 0 ≤ ρ j ∧ ρ j ≤ ((j % 1000 : Nat) : Int)
theorem lin_rng {ρ : Nat → Int} (hs : Smalls ρ) : ∀ {l : List Nat}, smallL l = true → 0 ≤ linD ρ l ∧ linD ρ l ≤ (bndL l : Nat)
  | [], _ => ⟨Int.le_refl _, Int.le_refl _⟩
  | j :: l, h => by
    have h' : (bif Nat.ble 1000000 j then smallL l else false) = true := h
    cases hj : Nat.ble 1000000 j with
    | false => rw [hj] at h'; cases h'
    | true =>
      rw [hj] at h'
      obtain ⟨h1, h2⟩ := lin_rng hs (l := l) h'
      obtain ⟨h3, h4⟩ := hs j (Nat.le_of_ble_eq_true hj)
      have e1 : bndL (j :: l) = j % 1000 + bndL l := rfl
      rw [e1]
      show 0 ≤ ρ j + linD ρ l ∧ ρ j + linD ρ l ≤ _
      omega
theorem linP_den {ρ : Nat → Int} {a : SX} {c : Int} {l : List Nat} (h : linP a = some (c, l)) : a.den ρ = c + linD ρ l := by
  unfold linP at h
  split at h
  · injection h with h; injection h with h1 h2; subst h1 h2; rfl
  · injection h with h; injection h with h1 h2; subst h1 h2; show _ = _ + (0 : Int); rw [Int.add_zero]; rfl
  · cases h
theorem insL_den (ρ : Nat → Int) (j : Nat) : ∀ l : List Nat, linD ρ (insL j l) = ρ j + linD ρ l
  | [] => rfl
  | x :: l => by
    have e1 : insL j (x :: l) = bif Nat.ble j x then j :: x :: l else x :: insL j l := rfl
    rw [e1]
    cases Nat.ble j x with
    | true => rfl
    | false =>
      show ρ x + linD ρ (insL j l) = ρ j + (ρ x + linD ρ l)
      rw [insL_den ρ j l]; omega
theorem mrgL_den (ρ : Nat → Int) (m : List Nat) : ∀ l : List Nat, linD ρ (mrgL l m) = linD ρ l + linD ρ m
  | [] => by show linD ρ m = 0 + linD ρ m; omega
  | j :: l => by
    show linD ρ (insL j (mrgL l m)) = ρ j + linD ρ l + linD ρ m
    rw [insL_den, mrgL_den ρ m l]; omega
theorem cmpI_ok {op : BinOp} {a b : Int} {r : Bool} (h : cmpI op a b = some r) (d : Int) : isCmp op = true ∧ cmpB op (a + d) (b + d) = r := by
  cases op <;> simp only [cmpI] at h <;> first | (cases h; done) | (injection h with h; subst h; refine ⟨rfl, ?_⟩)
  · rw [Bool.eq_iff_iff]; simp [cmpB, ieq_eq]
  · rw [Bool.eq_iff_iff]; simp [cmpB, ieq_eq]
  · rw [Bool.eq_iff_iff]; simp [cmpB, ilt_eq]
  · rw [Bool.eq_iff_iff]; simp [cmpB, ile_eq]
  · rw [Bool.eq_iff_iff]; simp [cmpB, ilt_eq]
  · rw [Bool.eq_iff_iff]; simp [cmpB, ile_eq]
theorem lcmp_ok {ρ : Nat → Int} (hs : Smalls ρ) {op : BinOp} {a b : SX} {r : Bool} (h : lcmp op a b = some r) : isCmp op = true ∧ cmpB op (a.den ρ) (b.den ρ) = r := by
  unfold lcmp at h
  split at h
  · rename_i c l c' l' h1 h2
    rw [linP_den h1, linP_den h2]
    cases hsm : smallL l && smallL l' with
    | false => rw [hsm] at h; cases h
    | true =>
      rw [hsm] at h
      simp only [cond_true] at h
      simp only [Bool.and_eq_true] at hsm
      obtain ⟨q1, q2⟩ := lin_rng hs hsm.1
      obtain ⟨q3, q4⟩ := lin_rng hs hsm.2
      cases hq : leqL l l' with
      | true =>
        rw [hq] at h
        rw [leqL_eq hq]
        exact cmpI_ok h _
      | false =>
        rw [hq] at h
        refine ivcmp_ok h (by omega) ?_ (by omega) ?_
        · show c + linD ρ l ≤ c + ((bndL l : Nat) : Int); omega
        · show c' + linD ρ l' ≤ c' + ((bndL l' : Nat) : Int); omega
  · cases h
theorem linIn_ok {c : Int} {l : List Nat} (h : linIn c l = true) : -1000000000000000 ≤ c ∧ c ≤ 1000000000000000 ∧ (bndL l : Nat) ≤ 1000000000000000 := by
  unfold linIn at h
  simp only [Bool.and_eq_true, ile_eq, decide_eq_true_eq] at h
  exact ⟨h.1, h.2.1, Nat.le_of_ble_eq_true h.2.2⟩
theorem larith_ok {ρ : Nat → Int} (hs : Smalls ρ) {op : BinOp} {k : IntKind} {a b x : SX} {ty : TypeId} (h : larith op k a b = some x) : (binOp op ty (.int k (a.den ρ)) (.int k (b.den ρ))).run P w = .ok (.int k (x.den ρ)) w ∧ k.wrap (x.den ρ) = x.den ρ := by
  unfold larith at h
  split at h
  · rename_i c l c' l' h1 h2
    rw [linP_den h1, linP_den h2]
    cases hg : (smallL l && (smallL l' && (linIn c l && linIn c' l'))) with
    | false => rw [hg] at h; cases h
    | true =>
      rw [hg] at h
      injection h with h
      subst h
      simp only [Bool.and_eq_true] at hg
      obtain ⟨g1, g2, g3, g4⟩ := hg
      obtain ⟨q1, q2⟩ := lin_rng hs g1
      obtain ⟨q3, q4⟩ := lin_rng hs g2
      obtain ⟨p1, p2, p3⟩ := linIn_ok g3
      obtain ⟨p4, p5, p6⟩ := linIn_ok g4
      have hden : SX.den ρ (.lin (iadd c c') (mrgL l l')) = (c + linD ρ l) + (c' + linD ρ l') := by
        show iadd c c' + linD ρ (mrgL l l') = _
        rw [iadd_eq, mrgL_den]; omega
      have hw : IntKind.i64.wrap ((c + linD ρ l) + (c' + linD ρ l')) = (c + linD ρ l) + (c' + linD ρ l') := by rw [IntKind.wrap_i64]; omega
      rw [hden]
      exact ⟨by simp only [binOp, Op.intArith]; rw [hw]; rfl, hw⟩
  · rename_i c l c' l' h1 h2
    rw [linP_den h1, linP_den h2]
    cases hg : (smallL l && (smallL l' && (linIn c l && linIn c' l'))) with
    | false => rw [hg] at h; cases h
    | true =>
      rw [hg] at h
      simp only [cond_true] at h
      simp only [Bool.and_eq_true] at hg
      obtain ⟨g1, g2, g3, g4⟩ := hg
      obtain ⟨q1, q2⟩ := lin_rng hs g1
      obtain ⟨q3, q4⟩ := lin_rng hs g2
      obtain ⟨p1, p2, p3⟩ := linIn_ok g3
      obtain ⟨p4, p5, p6⟩ := linIn_ok g4
      have hw : IntKind.i64.wrap ((c + linD ρ l) - (c' + linD ρ l')) = (c + linD ρ l) - (c' + linD ρ l') := by rw [IntKind.wrap_i64]; omega
      cases hq : leqL l l' with
      | true =>
        rw [hq] at h
        injection h with h
        subst h
        have hl := leqL_eq hq
        have hden : SX.den ρ (.lin (Int.sub c c') []) = (c + linD ρ l) - (c' + linD ρ l') := by
          show (c - c') + (0 : Int) = _
          rw [hl]; omega
        rw [hden]
        exact ⟨by simp only [binOp, Op.intArith]; rw [hw]; rfl, hw⟩
      | false =>
        rw [hq] at h
        simp only [cond_false] at h
        split at h
        · injection h with h
          subst h
          have hden : SX.den ρ (.lin (Int.sub c c') l) = (c + linD ρ l) - (c' + linD ρ []) := by
            show (c - c') + linD ρ l = (c + linD ρ l) - (c' + 0)
            omega
          rw [hden]
          exact ⟨by simp only [binOp, Op.intArith]; rw [hw]; rfl, hw⟩
        · cases h
  · cases h
theorem linV_VR {k : IntKind} {x : SX} (hw : k.wrap (x.den e.base.ρ) = x.den e.base.ρ) : VR e (linV k x) (.int k (x.den e.base.ρ)) := by
  unfold linV
  split
  · rename_i c
    show VR e (.int k c) (.int k (c + 0))
    rw [Int.add_zero]; exact .int _ _
  · exact .sx rfl hw
theorem wrap_small (k : IntKind) (n : Int) (h1 : 0 ≤ n) (h2 : n ≤ 127) : k.wrap n = n := by
  cases k <;> simp [IntKind.wrap, IntKind.bits, IntKind.signed] <;> omega
theorem cnvS_ok (k : IntKind) (n : SX) : ∃ x : SX, VR e (cnvS k n) (.int k (x.den e.base.ρ)) ∧ x.den e.base.ρ = k.wrap (n.den e.base.ρ) := by
  unfold cnvS
  split
  · rename_i c l hl
    cases hg : smallL l && fitsL k c l with
    | false => exact ⟨.cnv k n, .sx rfl (wrap_wrap _ _), rfl⟩
    | true =>
      simp only [Bool.and_eq_true] at hg
      obtain ⟨q1, q2⟩ := lin_rng (show Smalls e.base.ρ from e.base.sm) hg.1
      have hd : SX.den e.base.ρ (.lin c l) = c + linD e.base.ρ l := rfl
      have hw : k.wrap (c + linD e.base.ρ l) = c + linD e.base.ρ l := by
        have hf := hg.2
        unfold fitsL at hf
        simp only [Bool.or_eq_true, Bool.and_eq_true, ile_eq, decide_eq_true_eq] at hf
        rcases hf with ⟨h1, h2, h3⟩ | ⟨h1, h2⟩
        · have h3 := Nat.le_of_ble_eq_true h3
          have h4 : c.toNat + bndL l ≤ 127 := h3
          exact wrap_small k _ (by omega) (by omega)
        · have := keq_eq h1
          subst this
          obtain ⟨p1, p2, p3⟩ := linIn_ok h2
          rw [IntKind.wrap_i64]; omega
      exact ⟨.lin c l, linV_VR (by rw [hd]; exact hw), by rw [linP_den hl, hd, hw]⟩
  · exact ⟨.cnv k n, .sx rfl (wrap_wrap _ _), rfl⟩
theorem fitsI_ok {k : IntKind} {lo hi n : Int} (h : fitsI k lo hi = true) (h1 : lo ≤ n) (h2 : n ≤ hi) : k.wrap n = n := by
  unfold fitsI at h
  simp only [Bool.or_eq_true, Bool.and_eq_true, ile_eq, decide_eq_true_eq] at h
  obtain ⟨g1, g2 | ⟨g2, g3⟩⟩ := h
  · exact wrap_small k n (by omega) (by omega)
  · have := keq_eq g2
    subst this
    rw [IntKind.wrap_i64]; omega
theorem sund_ok {op : BinOp} {k1 k2 : IntKind} {a b : SX} {m n : Int} {ty : TypeId} (h : sund op k1 k2 a b = true) : ∃ r, (binOp op ty (.int k1 m) (.int k2 n)).run P w = .ok (.bool r) w := by
  unfold sund at h
  cases hc : isCmp op with
  | false => rw [hc] at h; cases h
  | true =>
    rw [hc] at h
    cases hk : keq k1 k2 with
    | false => rw [hk] at h; cases h
    | true =>
      have := keq_eq hk
      subst this
      exact ⟨_, run_cmp hc⟩
theorem sbin_ok {op : BinOp} {k1 k2 : IntKind} {a b : SX} {ty : TypeId} {f : V → RO} (hk : sbin op k1 k2 a b f = r) (hr : r.good) :
    ∃ v z, f v = r ∧ VR e v z ∧ (binOp op ty (.int k1 (a.den e.base.ρ)) (.int k2 (b.den e.base.ρ))).run P w = .ok z w := by
  unfold sbin at hk
  obtain ⟨hkk, hk2⟩ := bif_ok hk (by simp [RO.good]) hr
  clear hk
  have := keq_eq hkk
  subst this
  split at hk2
  · rename_i rr hl
    obtain ⟨g1, g2⟩ := lcmp_ok (show Smalls e.base.ρ from e.base.sm) hl
    exact ⟨_, _, hk2, .bool rr, by rw [run_cmp g1, g2]⟩
  split at hk2
  · rename_i xx hl
    obtain ⟨g1, g2⟩ := larith_ok (P := P) (w := w) (ty := ty) (show Smalls e.base.ρ from e.base.sm) hl
    exact ⟨_, _, hk2, linV_VR g2, g1⟩
  split at hk2
  · exact ⟨_, _, hk2, .sx rfl (wrap_wrap _ _), by simp [binOp, Op.intArith, SX.den, opV]⟩
  · exact ⟨_, _, hk2, .sx rfl (wrap_wrap _ _), by simp [binOp, Op.intArith, SX.den, opV]⟩
  · exact ⟨_, _, hk2, .sx rfl (wrap_wrap _ _), by simp [binOp, Op.intArith, SX.den, opV]⟩
  · exact ⟨_, _, hk2, .sx rfl (wrap_wrap _ _), by simp [binOp, Op.intBits, SX.den, opV]⟩
  · exact ⟨_, _, hk2, .sx rfl (wrap_wrap _ _), by simp [binOp, Op.intBits, SX.den, opV]⟩
  · exact ⟨_, _, hk2, .sx rfl (wrap_wrap _ _), by simp [binOp, Op.intBits, SX.den, opV]⟩
  · obtain ⟨hq, hk2⟩ := bif_ok hk2 (by simp [RO.good]) hr
    rw [sxeq_eq hq]
    exact ⟨_, _, hk2, .bool _, by simp [binOp, Op.intCmp]⟩
  · obtain ⟨hq, hk2⟩ := bif_ok hk2 (by simp [RO.good]) hr
    rw [sxeq_eq hq]
    exact ⟨_, _, hk2, .bool _, by simp [binOp, Op.intCmp]⟩
  · subst hk2; cases hr
theorem map_toNat {l m : List UInt8} (h : l.map (fun c => (c.toNat : Int)) = m.map (fun c => (c.toNat : Int))) : l = m := by
  induction l generalizing m with
  | nil => cases m with
    | nil => rfl
    | cons _ _ => simp at h
  | cons x l ih => cases m with
    | nil => simp at h
    | cons y m =>
      simp only [List.map_cons, List.cons.injEq] at h
      have hxy : x = y := UInt8.toNat_inj.1 (by have := h.1; omega)
      rw [hxy, ih h.2]
theorem ubin_ok {op : BinOp} {ty : TypeId} {x y : V} {xo yo : Operand} (h : ubin op x y = true) {xv yv : Value} (hx : VR e x xv) (hy : VR e y yv) :
    ∃ r, (do eqGuard op ty xo yo xv yv; binOp op ty xv yv : Sem Value).run P w = .ok (.bool r) w := by
  have viaG : ∀ {z : Value}, ¬ (xv = .nilIface ∧ yv = .nilIface) → (∀ c d, ¬ (xv = .agg c ∧ yv = .agg d)) → (binOp op ty xv yv).run P w = .ok z w → (do eqGuard op ty xo yo xv yv; binOp op ty xv yv : Sem Value).run P w = .ok z w := fun h1 h2 h3 => by
    rw [Sem.run_bind, run_eqGuard h1 h2]; exact h3
  unfold ubin at h
  split at h
  · cases hx; cases hy
    obtain ⟨r, hr⟩ := sund_ok (P := P) (w := w) (ty := ty) h
    exact ⟨r, viaG (by simp) (by simp) hr⟩
  · cases hx; cases hy
    obtain ⟨r, hr⟩ := sund_ok (P := P) (w := w) (ty := ty) h
    exact ⟨r, viaG (by simp) (by simp) hr⟩
  · cases hx; cases hy
    obtain ⟨r, hr⟩ := sund_ok (P := P) (w := w) (ty := ty) h
    exact ⟨r, viaG (by simp) (by simp) hr⟩
  · cases hx; cases hy
    obtain ⟨r, hr⟩ := undet_ok (P := P) (w := w) (ty := ty) h
    exact ⟨r, viaG (by simp) (by simp) hr⟩
  · cases hx; cases hy
    obtain ⟨r, hr⟩ := undet_ok (P := P) (w := w) (ty := ty) h
    exact ⟨r, viaG (by simp) (by simp) hr⟩
  · cases hx; cases hy
    obtain ⟨r, hr⟩ := undet_ok (P := P) (w := w) (ty := ty) h
    exact ⟨r, viaG (by simp) (by simp) hr⟩
  · cases h
theorem run_equalNil (n : Nat) {ty : TypeId} {ms} (hu : P.underlying ty = some (.interface ms)) : (Op.equalIn (n + 1) ty .nilIface .nilIface).run P w = .ok true w := by
  simp only [Op.equalIn, Sem.run_bind, run_under hu, Result.andThen]
  simp
theorem run_eqGuardC {op : BinOp} {ty : TypeId} {xo yo : Operand} (hc : isC xo yo = true) : (eqGuard op ty xo yo .nilIface .nilIface).run P w = .ok () w := by
  cases xo <;> cases yo <;> first | (cases hc; done) | (cases op <;> rfl)
theorem vbin_ok {op : BinOp} {ty : TypeId} {x y : V} {f : V → RO} {xo yo : Operand} (hk : vbin P op ty (isC xo yo) x y f = r) (hr : r.good) {xv yv : Value} (hx : VR e x xv) (hy : VR e y yv) :
    ∃ v z, f v = r ∧ VR e v z ∧ (do eqGuard op ty xo yo xv yv; binOp op ty xv yv : Sem Value).run P w = .ok z w := by
  have viaG : ∀ {z : Value}, ¬ (xv = .nilIface ∧ yv = .nilIface) → (∀ c d, ¬ (xv = .agg c ∧ yv = .agg d)) → (binOp op ty xv yv).run P w = .ok z w → (do eqGuard op ty xo yo xv yv; binOp op ty xv yv : Sem Value).run P w = .ok z w := fun h1 h2 h3 => by
    rw [Sem.run_bind, run_eqGuard h1 h2]; exact h3
  unfold vbin at hk
  split at hk
  · rename_i k1 a k2 b
    cases hx; cases hy
    split at hk
    · split at hk
      · rename_i n
        refine ⟨_, _, hk, .int _ _, viaG (by simp) (by simp) ?_⟩
        have hn : ¬ ((n : Int) < 0) := by omega
        simp [binOp, Op.shift, hn, ishl_eq, imin_eq, ibits_eq]
      · subst hk; cases hr
    · split at hk
      · rename_i n
        refine ⟨_, _, hk, .int _ _, viaG (by simp) (by simp) ?_⟩
        have hn : ¬ ((n : Int) < 0) := by omega
        simp [binOp, Op.shift, hn, ishr_eq, imin_eq, ibits_eq]
      · subst hk; cases hr
    · rename_i h1 h2
      obtain ⟨hkk, hk'⟩ := bif_ok hk (by simp [RO.good]) hr
      have := keq_eq hkk
      subst this
      obtain ⟨v, z, g1, g2, g3⟩ := ibin_ok (P := P) (e := e) (w := w) (ty := ty) hk' hr (fun h => h1 h) (fun h => h2 h)
      exact ⟨v, z, g1, g2, viaG (by simp) (by simp) g3⟩
  · rename_i a b
    cases hx; cases hy
    split at hk
    · obtain ⟨hle, hk⟩ := bif_ok hk (by simp [RO.good]) hr
      have hle := Nat.le_of_ble_eq_true hle
      refine ⟨_, _, hk, .str _, viaG (by simp) (by simp) ?_⟩
      have hm : ¬ (((a.size + b.size : Nat) : Int) > IntKind.i64.max) := by
        have : IntKind.i64.max = 9223372036854775807 := by decide
        rw [this]; omega
      simp only [binOp, Op.stringOp, if_neg hm]
      rfl
    · exact ⟨_, _, hk, .bool _, viaG (by simp) (by simp) rfl⟩
    · exact ⟨_, _, hk, .bool _, viaG (by simp) (by simp) rfl⟩
    · subst hk; cases hr
  · cases hx with
    | agg hx => cases hy with
      | agg hy => exact vagg_ok hk hr hx hy
  · cases hx with
    | sx h1 _ => cases hy with
      | sx h2 _ =>
        subst h1 h2
        obtain ⟨v, z, g1, g2, g3⟩ := sbin_ok (P := P) (e := e) (w := w) (ty := ty) hk hr
        exact ⟨v, z, g1, g2, viaG (by simp) (by simp) g3⟩
  · cases hx with
    | sx h1 _ => cases hy with
      | int =>
        subst h1
        split at hk
        · split at hk
          · rename_i n
            refine ⟨_, _, hk, .sx rfl (wrap_wrap _ _), viaG (by simp) (by simp) ?_⟩
            have hn : ¬ ((n : Int) < 0) := by omega
            simp [binOp, Op.shift, hn, SX.den, imin_eq, ibits_eq]
          · subst hk; cases hr
        · obtain ⟨v, z, g1, g2, g3⟩ := sbin_ok (P := P) (e := e) (w := w) (ty := ty) hk hr
          exact ⟨v, z, g1, g2, viaG (by simp) (by simp) g3⟩
  · cases hx with
    | int => cases hy with
      | sx h2 _ =>
        subst h2
        obtain ⟨v, z, g1, g2, g3⟩ := sbin_ok (P := P) (e := e) (w := w) (ty := ty) hk hr
        exact ⟨v, z, g1, g2, viaG (by simp) (by simp) g3⟩
  · cases hx with
    | ss h1 => cases hy with
      | ss h2 =>
        split at hk
        · obtain ⟨hq, hk⟩ := bif_ok hk (by simp [RO.good]) hr
          rw [sxeqs_eq hq, ← h2] at h1
          have := map_toNat h1
          refine ⟨_, _, hk, .bool _, viaG (by simp) (by simp) ?_⟩
          simp [binOp, Op.stringOp, this]
        · obtain ⟨hq, hk⟩ := bif_ok hk (by simp [RO.good]) hr
          rw [sxeqs_eq hq, ← h2] at h1
          have := map_toNat h1
          refine ⟨_, _, hk, .bool _, viaG (by simp) (by simp) ?_⟩
          simp [binOp, Op.stringOp, this]
        · subst hk; cases hr
  · cases hx; cases hy
    obtain ⟨hc, hk⟩ := bif_ok hk (by simp [RO.good]) hr
    have hg : (eqGuard op ty xo yo .nilIface .nilIface).run P w = .ok () w := run_eqGuardC hc
    split at hk
    · rename_i ms hu
      have he : (Op.equal ty .nilIface .nilIface).run P w = .ok true w := run_equalNil 9999 hu
      split at hk
      · refine ⟨_, _, hk, .bool _, ?_⟩
        rw [Sem.run_bind, hg]
        simp [Result.andThen, binOp, he]
      · refine ⟨_, _, hk, .bool _, ?_⟩
        rw [Sem.run_bind, hg]
        simp [Result.andThen, binOp, he]
      · subst hk; cases hr
    · subst hk; cases hr
  · cases hx with
    | iv h1 h2 => cases hy with
      | int =>
        obtain ⟨v, z, g1, g2, g3⟩ := ivbin_ok (P := P) (e := e) (w := w) (ty := ty) hk hr h1 h2 (Int.le_refl _) (Int.le_refl _)
        exact ⟨v, z, g1, g2, viaG (by simp) (by simp) g3⟩
  · cases hy with
    | iv h1 h2 => cases hx with
      | int =>
        obtain ⟨v, z, g1, g2, g3⟩ := ivbin_ok (P := P) (e := e) (w := w) (ty := ty) hk hr (Int.le_refl _) (Int.le_refl _) h1 h2
        exact ⟨v, z, g1, g2, viaG (by simp) (by simp) g3⟩
  · cases hx with
    | iv h1 h2 => cases hy with
      | iv h3 h4 =>
        obtain ⟨v, z, g1, g2, g3⟩ := ivbin_ok (P := P) (e := e) (w := w) (ty := ty) hk hr h1 h2 h3 h4
        exact ⟨v, z, g1, g2, viaG (by simp) (by simp) g3⟩
  · split at hk
    · split at hk
      · rename_i b hb
        obtain ⟨g1, g2, g3, g4, _⟩ := veq_ok (w := w) hb hx hy
        refine ⟨_, _, hk, .bool b, viaG g2 g3 ?_⟩
        rw [g4]; simp [g1, Result.andThen]
      · subst hk; cases hr
    · split at hk
      · rename_i b hb
        obtain ⟨g1, g2, g3, _, g4⟩ := veq_ok (w := w) hb hx hy
        refine ⟨_, _, hk, .bool (!b), viaG g2 g3 ?_⟩
        rw [g4]; simp [g1, Result.andThen]
      · subst hk; cases hr
    · subst hk; cases hr
theorem oBin_pure {op : BinOp} {ty yt : TypeId} {x y : Operand} (hk : oBin op ty x y yt P pr ih t h s k = r) (hr : r.good) (ha : AR D e t a) (hs : Sim e h w) (ho : o.op = .binOp op ty x y yt) : PureOk P e s h w a o k r := by
  obtain ⟨v, hk, hv⟩ := opnd_ok (a := a) hk hr ha
  obtain ⟨u, hk, hu⟩ := opnd_ok (a := a) hk hr ha
  obtain ⟨z, zv, g1, g2, g3⟩ := vbin_ok (w := w) (xo := x) (yo := y) hk hr hv hu
  refine ⟨z, _, g1, g2, ?_⟩
  simp only [execOp, ho]
  exact run_v g3
theorem isub0 (n : Int) : Int.sub (Int.ofNat 0) n = -n := by show (0 : Int) - n = -n; omega
theorem oUn_pure {op : UnOp} {ty : TypeId} {x : Operand} (hk : oUn op ty x P pr ih t h s k = r) (hr : r.good) (ha : AR D e t a) (hs : Sim e h w) (ho : o.op = .unOp op ty x) : PureOk P e s h w a o k r := by
  obtain ⟨v, hk, hv⟩ := opnd_ok (a := a) hk hr ha
  generalize hc : a.eval x = cv at hv
  split at hk
  · cases hv
    exact ⟨_, _, hk, (.bool _), by simp [execOp, ho, hc, Op.unary]⟩
  · cases hv
    rw [isub0] at hk
    exact ⟨_, _, hk, (.int _ _), by simp [execOp, ho, hc, Op.unary, Op.intArith, iwrap_eq]⟩
  · subst hk; cases hr
theorem octets_ok : ∀ {l : List V} {f : List UInt8 → RO} {xs : List Value}, octets l f = r → r.good → VRs e l xs → ∃ ns : List Int, f (ns.map fun n => UInt8.ofNat n.toNat) = r ∧ xs = ns.map (Value.int .u8)
  | _, f, _, hk, hr, .nil => ⟨[], hk, rfl⟩
  | v :: l, f, _, hk, hr, .cons hv ht => by
    have e1 : ∀ u : V, octets (u :: l) f = (match u with | .int .u8 (.ofNat n) => bif Nat.ble n 255 then octets l (fun bs => f (UInt8.ofNat n :: bs)) else .err 180 | _ => .err 181) := fun u => rfl
    rw [e1] at hk
    split at hk
    · rename_i n
      obtain ⟨_, hk⟩ := bif_ok hk (by simp [RO.good]) hr
      cases hv
      obtain ⟨ns, h1, h2⟩ := octets_ok hk hr ht
      exact ⟨(n : Int) :: ns, by simpa using h1, by simp [h2]⟩
    · subst hk; cases hr
theorem push_all (ns : List Int) (s : ByteArray) : ns.foldl (fun r n => r.push (UInt8.ofNat n.toNat)) s = ⟨s.data ++ (ns.map fun n => UInt8.ofNat n.toNat).toArray⟩ := by
  induction ns generalizing s with
  | nil => simp
  | cons n ns ih => rw [List.foldl_cons, ih]; simp [ByteArray.push]
theorem bytes_at (hs : Sim e h w) {b o l : Nat} {c : Nat} {f : ByteArray → RO} {x : Loc} (hx : e b = some x) {a0 : Nat} (ha0 : l = 0 ∨ a0 = x.sh + o) (n1 n2 : Nat)
    (hk : (match h.get .gone b with | .cells t n => bif Nat.ble (Nat.add o l) n then octets (rdCells t l o) (fun bs => f ⟨⟨bs⟩⟩) else .err n1 | _ => bif Nat.beq l 0 then f ⟨#[]⟩ else .err n2) = r) (hr : r.good) :
    ∃ s, f s = r ∧ (Conv.bytesToString (.slice (some ⟨x.n, a0, none⟩) l c)).run P w = .ok (.string s) w := by
  split at hk
  · rename_i t' m hb
    obtain ⟨hl, cs, el, fr, hw, h1, h2, h3, h4, h5⟩ := cells_at hs hb hx
    obtain ⟨hle, hk⟩ := bif_ok hk (by simp [RO.good]) hr
    have hle' : o + l ≤ m := Nat.le_of_ble_eq_true hle
    obtain ⟨xs, hxl, hxs, hget⟩ := rd_ok h3 hle'
    obtain ⟨ns, g1, g2⟩ := octets_ok hk hr hxs
    refine ⟨_, g1, ?_⟩
    have hlc : (loadCells ⟨x.n, a0, none⟩ l).run P w = .ok (ns.map (Value.int .u8)).toArray w := by
      have := run_loadCells_list (P := P) w ⟨x.n, a0, none⟩ xs (fun j v hj => by
        rcases ha0 with h0 | h0
        · subst h0
          have : xs = [] := List.eq_nil_of_length_eq_zero hxl
          rw [this] at hj; simp at hj
        · rw [addr_add, cell_at hw, h0]; exact hget j v hj)
      rw [hxl, g2] at this
      exact this
    rw [run_bytesToString w _ l c ns hlc, push_all]
    simp [ByteArray.empty, ByteArray.emptyWithCapacity]
    try rfl
  · obtain ⟨hle, hk⟩ := bif_ok hk (by simp [RO.good]) hr
    have := Nat.eq_of_beq_eq_true hle
    subst this
    refine ⟨_, hk, ?_⟩
    have hlc : (loadCells ⟨x.n, a0, none⟩ 0).run P w = .ok (([] : List Int).map (Value.int .u8)).toArray w := by
      have := run_loadCells_list (P := P) w ⟨x.n, a0, none⟩ [] (fun j v hj => by simp at hj)
      simpa using this
    rw [run_bytesToString w _ 0 c [] hlc]
    rfl
theorem bytesV_ok {x : V} {f : ByteArray → RO} (hk : bytesV h x f = r) (hr : r.good) (hs : Sim e h w) {xv : Value} (hx : VR e x xv) :
    ∃ b, f b = r ∧ (∃ a l c, xv = .slice a l c) ∧ (Conv.bytesToString xv).run P w = .ok (.string b) w := by
  unfold bytesV at hk
  split at hk
  · cases hx; exact ⟨_, hk, ⟨_, _, _, rfl⟩, by simp [Conv.bytesToString]; rfl⟩
  · cases hx with
    | sl hb hl => obtain ⟨s, g1, g2⟩ := bytes_at (P := P) hs hb (.inr rfl) _ _ hk hr; exact ⟨s, g1, ⟨_, _, _, rfl⟩, g2⟩
    | sl0 hb => obtain ⟨s, g1, g2⟩ := bytes_at (P := P) hs hb (.inl rfl) _ _ hk hr; exact ⟨s, g1, ⟨_, _, _, rfl⟩, g2⟩
  · cases hx with
    | slu hb hl hc => obtain ⟨s, g1, g2⟩ := bytes_at (P := P) hs hb (.inr rfl) _ _ hk hr; exact ⟨s, g1, ⟨_, _, _, rfl⟩, g2⟩
    | slu0 hb => obtain ⟨s, g1, g2⟩ := bytes_at (P := P) hs hb (.inl rfl) _ _ hk hr; exact ⟨s, g1, ⟨_, _, _, rfl⟩, g2⟩
  · obtain ⟨hq, hk⟩ := bif_ok hk (by simp [RO.good]) hr
    have := Nat.eq_of_beq_eq_true hq
    subst this
    cases hx with
    | xsl hb hl hc =>
      refine ⟨_, hk, ⟨_, _, _, rfl⟩, ?_⟩
      have hlc : ∀ ad, (loadCells ad 0).run P w = .ok (([] : List Int).map (Value.int .u8)).toArray w := fun ad => by
        have := run_loadCells_list (P := P) w ad [] (fun j v hj => by simp at hj)
        simpa using this
      rw [run_bytesToString w _ 0 _ [] (hlc _)]
      rfl
  · subst hk; cases hr
theorem sxs_ok : ∀ {l : List V} {f : List SX → RO} {xs : List Value}, sxs l f = r → r.good → VRs e l xs → ∃ (ns : List Int) (ys : List SX), f ys = r ∧ xs = ns.map (Value.int .u8) ∧ ns = ys.map (SX.den e.base.ρ) ∧ ∀ n ∈ ns, IntKind.wrap .u8 n = n
  | [], f, _, hk, hr, .nil => ⟨[], [], hk, rfl, rfl, fun _ h => by cases h⟩
  | v :: l, f, _, hk, hr, .cons hv ht => by
    have e1 : ∀ u : V, sxs (u :: l) f = (match u with | .int .u8 (.ofNat n) => bif Nat.ble n 255 then sxs l (fun bs => f (.lit (.ofNat n) :: bs)) else .err 180 | .sx .u8 x => sxs l (fun bs => f (x :: bs)) | _ => .err 181) := fun u => rfl
    rw [e1] at hk
    split at hk
    · rename_i n
      obtain ⟨hq, hk⟩ := bif_ok hk (by simp [RO.good]) hr
      have hq := Nat.le_of_ble_eq_true hq
      cases hv
      obtain ⟨ns, ys, h1, h2, h3, h4⟩ := sxs_ok hk hr ht
      refine ⟨(n : Int) :: ns, .lit (.ofNat n) :: ys, h1, by simp [h2], by simp [h3, SX.den], ?_⟩
      intro m hm
      rcases List.mem_cons.1 hm with rfl | hm
      · show IntKind.wrap .u8 (n : Int) = n
        simp only [IntKind.wrap, IntKind.bits, IntKind.signed, Bool.false_and, Bool.false_eq_true, if_false]
        exact Int.emod_eq_of_lt (by omega) (by have : (2 : Int) ^ 8 = 256 := by decide
                                               omega)
      · exact h4 m hm
    · rename_i x
      cases hv with
      | sx hv hw =>
        obtain ⟨ns, ys, h1, h2, h3, h4⟩ := sxs_ok hk hr ht
        refine ⟨_ :: ns, x :: ys, h1, by rw [h2]; rfl, by rw [h3, hv]; rfl, ?_⟩
        intro m hm
        rcases List.mem_cons.1 hm with rfl | hm
        · exact hw
        · exact h4 m hm
    · subst hk; cases hr
theorem u8_back {n : Int} (h : IntKind.wrap .u8 n = n) : ((UInt8.ofNat n.toNat).toNat : Int) = n := by
  have h' : n % 256 = n := by
    have := h
    simp only [IntKind.wrap, IntKind.bits, IntKind.signed, Bool.false_and, Bool.false_eq_true, if_false] at this
    exact this
  have : (UInt8.ofNat n.toNat).toNat = n.toNat % 256 := by simp
  rw [this]
  omega
theorem ss_of {ns : List Int} {ys : List SX} (h3 : ns = ys.map (SX.den e.base.ρ)) (h4 : ∀ n ∈ ns, IntKind.wrap .u8 n = n) : VR e (.ss ys) (.string ⟨(ns.map fun n => UInt8.ofNat n.toNat).toArray⟩) := by
  refine .ss ?_
  rw [← h3]
  have : (⟨(ns.map fun n => UInt8.ofNat n.toNat).toArray⟩ : ByteArray).toList = ns.map fun n => UInt8.ofNat n.toNat := by rw [ByteArray.toList_eq]
  rw [this, List.map_map]
  conv => rhs; rw [← List.map_id ns]
  exact List.map_congr_left (fun n hn => u8_back (h4 n hn))
theorem symb_at {ys : List SX} {f : List SX → RO} {ad : Addr} {l c : Nat} {vs : List V} {xs : List Value} (hxl : xs.length = l) (hv : VRs e vs xs) (hget : ∀ j v, xs[j]? = some v → w.cell? (ad.add j) = some v) (hk : sxs vs f = r) (hr : r.good) :
    ∃ ys b, f ys = r ∧ VR e (.ss ys) (.string b) ∧ (Conv.bytesToString (.slice (some ad) l c)).run P w = .ok (.string b) w := by
  obtain ⟨ns, ys, g1, g2, g3, g4⟩ := sxs_ok hk hr hv
  refine ⟨ys, _, g1, ss_of g3 g4, ?_⟩
  have hlc := run_loadCells_list (P := P) w ad xs hget
  rw [hxl, g2] at hlc
  rw [run_bytesToString w _ l c ns hlc, push_all]
  simp [ByteArray.empty, ByteArray.emptyWithCapacity]
  try rfl
theorem symbV_ok {x : V} {f : List SX → RO} (hk : symbV h x f = r) (hr : r.good) (hs : Sim e h w) {xv : Value} (hx : VR e x xv) :
    ∃ ys b, f ys = r ∧ (∃ a l c, xv = .slice a l c) ∧ VR e (.ss ys) (.string b) ∧ (Conv.bytesToString xv).run P w = .ok (.string b) w := by
  unfold symbV at hk
  split at hk
  · rename_i b o l c
    split at hk
    · rename_i t' m hb
      obtain ⟨hle, hk⟩ := bif_ok hk (by simp [RO.good]) hr
      have hle' : o + l ≤ m := Nat.le_of_ble_eq_true hle
      cases hx with
      | sl hx hl =>
        obtain ⟨_, cs, el, fr, hw, h1, h2, h3, h4, h5⟩ := cells_at hs hb hx
        obtain ⟨xs, hxl, hxs, hget⟩ := rd_ok h3 hle'
        obtain ⟨ys, b, g1, g2, g3⟩ := symb_at (P := P) (w := w) (c := c) (ad := ⟨_, _, none⟩) (ys := []) hxl hxs (fun j v hj => by rw [addr_add, cell_at hw]; exact hget j v hj) hk hr
        exact ⟨ys, b, g1, ⟨_, _, _, rfl⟩, g2, g3⟩
      | sl0 hx =>
        obtain ⟨ys, b, g1, g2, g3⟩ := symb_at (P := P) (w := w) (e := e) (c := 0) (ad := ⟨_, _, none⟩) (ys := []) (l := 0) (xs := []) (vs := []) rfl .nil (fun j v hj => by simp at hj) hk hr
        exact ⟨ys, b, g1, ⟨_, _, _, rfl⟩, g2, g3⟩
    · subst hk; cases hr
  · rename_i b o l z
    split at hk
    · rename_i t' m hb
      obtain ⟨hle, hk⟩ := bif_ok hk (by simp [RO.good]) hr
      have hle' : o + l ≤ m := Nat.le_of_ble_eq_true hle
      cases hx with
      | slu hx hl hc =>
        obtain ⟨_, cs, el, fr, hw, h1, h2, h3, h4, h5⟩ := cells_at hs hb hx
        obtain ⟨xs, hxl, hxs, hget⟩ := rd_ok h3 hle'
        obtain ⟨ys, b, g1, g2, g3⟩ := symb_at (P := P) (w := w) (ad := ⟨_, _, none⟩) (ys := []) hxl hxs (fun j v hj => by rw [addr_add, cell_at hw]; exact hget j v hj) hk hr
        exact ⟨ys, b, g1, ⟨_, _, _, rfl⟩, g2, g3⟩
      | slu0 hx =>
        obtain ⟨ys, b, g1, g2, g3⟩ := symb_at (P := P) (w := w) (e := e) (c := 0) (ad := ⟨_, _, none⟩) (ys := []) (l := 0) (xs := []) (vs := []) rfl .nil (fun j v hj => by simp at hj) hk hr
        exact ⟨ys, b, g1, ⟨_, _, _, rfl⟩, g2, g3⟩
    · subst hk; cases hr
  · rename_i j o l
    cases hx with
    | xsl hx hl hc =>
      obtain ⟨xs, hxl, hxs, hget⟩ := ext_rd hs hx hl
      obtain ⟨ys, b, g1, g2, g3⟩ := symb_at (P := P) (w := w) (ad := ⟨_, _, none⟩) (ys := []) hxl hxs (fun j v hj => by rw [addr_add]; exact hget j v hj) hk hr
      exact ⟨ys, b, g1, ⟨_, _, _, rfl⟩, g2, g3⟩
  · subst hk; cases hr
theorem oConvert_pure {src dst : TypeId} {x : Operand} (hk : oConvert src dst x P pr ih t h s k = r) (hr : r.good) (ha : AR D e t a) (hs : Sim e h w) (ho : o.op = .convert src dst x) : PureOk P e s h w a o k r := by
  obtain ⟨v, hk, hv⟩ := opnd_ok (a := a) hk hr ha
  generalize hc : a.eval x = cv at hv
  split at hk
  · rename_i hd hu
    cases hv
    refine ⟨_, _, hk, (.int _ _), ?_⟩
    simp [execOp, ho, hc, convert, run_under hd, run_under hu, Result.andThen, Conv.intToInt, iwrap_eq]
  · rename_i kd k0 x0 hd hu
    cases hv with
    | sx hv hw =>
      obtain ⟨y, g1, g2⟩ := cnvS_ok (e := e) kd x0
      refine ⟨_, _, hk, g1, ?_⟩
      rw [g2, ← hv]
      simp [execOp, ho, hc, convert, run_under hd, run_under hu, Result.andThen, Conv.intToInt]
  · rename_i hd hu
    cases hv with
    | iv h1 h2 =>
      obtain ⟨hq, hk⟩ := bif_ok hk (by simp [RO.good]) hr
      refine ⟨_, _, hk, .iv h1 h2, ?_⟩
      simp [execOp, ho, hc, convert, run_under hd, run_under hu, Result.andThen, Conv.intToInt, fitsI_ok hq h1 h2]
  · rename_i v el hd hu
    split at hk
    · rename_i he
      split at hk
      · obtain ⟨ys, b, g1, ⟨a0, l0, c0, rfl⟩, g2, g3⟩ := symbV_ok (P := P) hk hr hs hv
        refine ⟨_, _, g1, g2, ?_⟩
        simp only [execOp, ho, hc]
        exact run_v (by rw [run_convert_bytes_string w src dst el _ _ _ hd he hu]; exact g3)
      obtain ⟨b, g1, ⟨a0, l0, c0, rfl⟩, g2⟩ := bytesV_ok (P := P) hk hr hs hv
      refine ⟨_, _, g1, .str _, ?_⟩
      simp only [execOp, ho, hc]
      exact run_v (by rw [run_convert_bytes_string w src dst el _ _ _ hd he hu]; exact g2)
    · subst hk; cases hr
  · subst hk; cases hr
end Go.Ev
