/- An evaluator of the model's code: its quick form does what the plain one does. -/
import Derived.Test.YtnklmadmenkdoaaGreatQEvC
import Derived.Test.YtnklmadmenkdoaaGreatQEvZe
set_option linter.unusedVariables false
set_option linter.unusedSimpArgs false
namespace Go.Ev
variable {D : List Deferred}
variable {P : Program} {pr : Prims} {ih : Rn} {e : Env} {t : T V} {h : H} {s : Nat} {w : World} {a : Act} {r : RO} {k : K} {o : Oper}
theorem pathG_get {α : Type} (d : α) (f n : Nat) (g : T α → α) (h : pathG d f n = .mk g) (t : T α) : g t = T.get d t n := (pathG_ok d f n g h t).trans (T.get_eq d t n).symm
theorem pathS_set {α : Type} (f n : Nat) (g : T α → α → T α) (h : pathS f n = .mk g) (t : T α) (x : α) : g t x = T.set t n x := (pathS_ok f n g h t x).trans (T.set_eq t n x).symm
theorem fN_eq (n : Nat) (f : Nat → RO) : fN n f = f n := by cases n <;> rfl
/-- The same, or an error. -/
def QE (x y : RO) : Prop := x = y ∨ ∃ n, x = .err n
theorem QE.refl (x : RO) : QE x x := .inl rfl
theorem QE.err (n : Nat) (y : RO) : QE (.err n) y := .inr ⟨n, rfl⟩
theorem QE.good {x y : RO} (h : QE x y) (hx : x.good) : x = y := by
  rcases h with h | ⟨n, h⟩
  · exact h
  · subst h; exact hx.elim
theorem QE.trans {x y z : RO} (h : QE x y) (h' : QE y z) : QE x z := by
  rcases h with rfl | h
  · exact h'
  · exact .inr h
theorem qget_eq {α : Type} (d : α) (n : Nat) (t : T α) {f : α → RO} {y : RO} (hf : QE (f (t.get d n)) y) : QE (qget d n t f) y := by
  unfold qget
  rw [fN_eq]
  cases hp : pathG d 64 n with
  | no => exact .err _ _
  | mk g => show QE (f (g t)) y; rw [pathG_get d 64 n g hp t]; exact hf
theorem qset_eq {α : Type} (n : Nat) (t : T α) (x : α) {f : T α → RO} {y : RO} (hf : QE (f (t.set n x)) y) : QE (qset n t x f) y := by
  unfold qset
  rw [fN_eq]
  cases hp : pathS (α := α) 64 n with
  | no => exact .err _ _
  | mk g => show QE (f (g t x)) y; rw [pathS_set 64 n g hp t x]; exact hf
theorem opdC_ok {x : Operand} {g : T V → V} (hg : opdC x = .mk g) (t : T V) (f : V → RO) : opnd t x f = f (g t) := by
  cases x with
  | tmp i => show f (t.get un i) = _; rw [pathG_get un 64 i g hg t]
  | const v =>
    simp only [opdC] at hg
    simp only [opnd]
    cases hv : ofV v with
    | none => rw [hv] at hg; cases hg
    | some u => rw [hv] at hg; injection hg with hg; subst hg; rfl
  | func n => injection hg with hg; subst hg; rfl
  | global g => cases hg
theorem with1_ok {α : Type} {x : Operand} {F : (T V → V) → Bx α} {f : α} (h : with1 x F = .mk f) : ∃ g, opdC x = .mk g ∧ F g = .mk f := by
  unfold with1 at h
  cases hp : opdC x with
  | no => rw [hp] at h; cases h
  | mk g => rw [hp] at h; exact ⟨g, rfl, h⟩
theorem argsC_ok : ∀ {l : List Operand} {gs : T V → List V}, argsC l = .mk gs → ∀ (t : T V) (f : List V → RO), opnds t l f = f (gs t)
  | [], gs, h, t, f => by injection h with h; subst h; rfl
  | x :: l, gs, h, t, f => by
    change with1 x (fun g => Bx.rec (motive := fun _ => Bx (T V → List V)) .no (fun gs => .mk (fun t => g t :: gs t)) (argsC l)) = .mk gs at h
    obtain ⟨g, h1, h2⟩ := with1_ok h
    cases hl : argsC l with
    | no => rw [hl] at h2; cases h2
    | mk gl =>
      rw [hl] at h2
      have : gs = fun t => g t :: gl t := by injection h2 with h2; exact h2.symm
      subst this
      show opnd t x (fun v => opnds t l (fun vs => f (v :: vs))) = _
      rw [opdC_ok h1, argsC_ok hl]
theorem argsC_len : ∀ {l : List Operand} {gs : T V → List V}, argsC l = .mk gs → ∀ t, (gs t).length = l.length
  | [], gs, h, t => by injection h with h; subst h; rfl
  | x :: l, gs, h, t => by
    change with1 x (fun g => Bx.rec (motive := fun _ => Bx (T V → List V)) .no (fun gs => .mk (fun t => g t :: gs t)) (argsC l)) = .mk gs at h
    obtain ⟨g, h1, h2⟩ := with1_ok h
    cases hl : argsC l with
    | no => rw [hl] at h2; cases h2
    | mk gl =>
      rw [hl] at h2
      have : gs = fun t => g t :: gl t := by injection h2 with h2; exact h2.symm
      subst this
      simp [argsC_len hl t]
theorem getI_int (kd : IntKind) (n : Int) (f : IntKind → Int → RO) (d : RO) : getI (.int kd n) f d = f kd n := rfl
theorem getI_cases (v : V) (f : IntKind → Int → RO) (d : RO) : (∃ kd n, v = .int kd n) ∨ getI v f d = d := by
  cases v <;> first | exact .inl ⟨_, _, rfl⟩ | exact .inr rfl
theorem getP_cases (v : V) (f : Nat → Nat → RO) (d : RO) : (∃ b o, v = .ptr b o) ∨ getP v f d = d := by
  cases v <;> first | exact .inl ⟨_, _, rfl⟩ | exact .inr rfl
theorem getT_cases (v : V) (f : List V → RO) (d : RO) : (∃ l, v = .tup l) ∨ getT v f d = d := by
  cases v <;> first | exact .inl ⟨_, rfl⟩ | exact .inr rfl
theorem getB_cases (v : V) (x y d : RO) : (∃ b, v = .bool b ∧ getB v x y d = bif b then x else y) ∨ getB v x y d = d := by
  cases v <;> first | exact .inr rfl | skip
  rename_i b; cases b <;> exact .inl ⟨_, rfl, rfl⟩
theorem isI64_ok {kd : IntKind} (h : isI64 kd = true) : kd = .i64 := by cases kd <;> first | rfl | cases h
/-- Operators upon plain integers. -/
theorem iAdd_ok (P : Program) (ty : TypeId) (cc : Bool) (a b : Int) (slow : RO) (f : V → RO) : iAdd slow f a b = slow ∨ iAdd slow f a b = vbin P .add ty cc (.int .i64 a) (.int .i64 b) f := by
  cases a with
  | negSucc m => exact .inl rfl
  | ofNat m => cases b with
    | negSucc n => exact .inl rfl
    | ofNat n =>
      show (bif Nat.ble (Nat.add m n) 9223372036854775807 then fN (Nat.add m n) (fun r => f (.int .i64 (.ofNat r))) else slow) = slow ∨ (bif Nat.ble (Nat.add m n) 9223372036854775807 then fN (Nat.add m n) (fun r => f (.int .i64 (.ofNat r))) else slow) = f (.int .i64 (iwrap .i64 (.ofNat (Nat.add m n))))
      cases hb : Nat.ble (Nat.add m n) 9223372036854775807 with
      | false => exact .inl rfl
      | true =>
        right
        rw [cond_true, fN_eq]
        have : iwrap .i64 (.ofNat (Nat.add m n)) = bif Nat.ble (Nat.add m n) 9223372036854775807 then .ofNat (Nat.add m n) else IntKind.wrap .i64 (.ofNat (Nat.add m n)) := rfl
        rw [this, hb]; rfl
theorem iCmp_ok (P : Program) (ty : TypeId) (cc : Bool) (op : BinOp) (c : Nat → Nat → Bool) (hc : ∀ m n f, ibin op .i64 (.ofNat m) (.ofNat n) f = f (.bool (c m n))) (hs : ∀ a b f, vbin P op ty cc (.int .i64 a) (.int .i64 b) f = ibin op .i64 a b f) (a b : Int) (slow : RO) (f : V → RO) :
    iCmp c slow f a b = slow ∨ iCmp c slow f a b = vbin P op ty cc (.int .i64 a) (.int .i64 b) f := by
  cases a with
  | negSucc m => exact .inl rfl
  | ofNat m => cases b with
    | negSucc n => exact .inl rfl
    | ofNat n => right; rw [hs, hc]; rfl
theorem opI_ok {op : BinOp} {q : RO → (V → RO) → Int → Int → RO} (hq : opI op = .mk q) (P : Program) (ty : TypeId) (cc : Bool) (a b : Int) (slow : RO) (f : V → RO) : q slow f a b = slow ∨ q slow f a b = vbin P op ty cc (.int .i64 a) (.int .i64 b) f := by
  cases op <;> first | (cases hq; done) | skip
  case add => injection hq with hq; subst hq; exact iAdd_ok P ty cc a b slow f
  all_goals
    injection hq with hq; subst hq
    exact iCmp_ok P ty cc _ _ (fun _ _ _ => rfl) (fun _ _ _ => rfl) a b slow f
theorem bin2_eq {op : BinOp} {ty yt : TypeId} {x y : Operand} {gx gy : T V → V} (hx : opdC x = .mk gx) (hy : opdC y = .mk gy) (ho : o.op = .binOp op ty x y yt) (yl : Nat → List V → H → Nat → K → RO) :
    opers1 yl o P pr ih t h s k = bin2 op P ty (isC x y) (gx t) (gy t) h s k := by
  unfold opers1
  rw [ho]
  dsimp only
  rw [opdC_ok hx, opdC_ok hy]
  rfl
theorem ubin_int (op : BinOp) (k1 k2 : IntKind) (a b : Int) : ubin op (.int k1 a) (.int k2 b) = false := rfl
theorem binC_eq {op : BinOp} {ty : TypeId} {cc : Bool} (gx gy : T V → V) : binC op P ty cc gx gy ih t h s k = bin2 op P ty cc (gx t) (gy t) h s k := by
  unfold binC
  cases hq : opI op with
  | no => rfl
  | mk q =>
    show getI (gx t) (fun k1 a => getI (gy t) (fun k2 b => bif isI64 k1 then (bif isI64 k2 then q (bin2 op P ty cc (gx t) (gy t) h s k) (fun x => k x h s) a b else bin2 op P ty cc (gx t) (gy t) h s k) else bin2 op P ty cc (gx t) (gy t) h s k) (bin2 op P ty cc (gx t) (gy t) h s k)) (bin2 op P ty cc (gx t) (gy t) h s k) = _
    generalize hb : bin2 op P ty cc (gx t) (gy t) h s k = slow
    rcases getI_cases (gx t) (fun k1 a => getI (gy t) (fun k2 b => bif isI64 k1 then (bif isI64 k2 then q slow (fun x => k x h s) a b else slow) else slow) slow) slow with ⟨k1, a, hv⟩ | h1
    · rw [hv, getI_int]
      rcases getI_cases (gy t) (fun k2 b => bif isI64 k1 then (bif isI64 k2 then q slow (fun x => k x h s) a b else slow) else slow) slow with ⟨k2, b, hu⟩ | h2
      · rw [hu, getI_int]
        cases i1 : isI64 k1 with
        | false => rfl
        | true => cases i2 : isI64 k2 with
          | false => rfl
          | true =>
            have e1 := isI64_ok i1
            have e2 := isI64_ok i2
            subst e1 e2
            simp only [cond_true]
            rcases opI_ok hq P ty cc a b slow (fun x => k x h s) with hh | hh
            · exact hh
            · rw [hh, ← hb, hv, hu]
              rfl
      · exact h2
    · exact h1
theorem oneQ_eq (v : V) : oneQ v = v.one := by cases v <;> rfl
theorem wB_eq (b : Bool) (v : V) : wB b v = (match v with | .bool c => (match c, b with | true, true => true | false, false => true | _, _ => false) | _ => false) := by
  cases b <;> cases v <;> first | rfl | skip
  all_goals (rename_i c; cases c <;> rfl)
theorem getL_cases (v : V) (f : Nat → RO) (d : RO) : (v = .nils ∧ getL v f d = f 0) ∨ (∃ b o l c, v = .sl b o l c ∧ getL v f d = f l) ∨ (∃ b o l z, v = .slu b o l z ∧ getL v f d = f l) ∨ getL v f d = d := by
  cases v <;> first | exact .inl ⟨rfl, rfl⟩ | exact .inr (.inl ⟨_, _, _, _, rfl, rfl⟩) | exact .inr (.inr (.inl ⟨_, _, _, _, rfl, rfl⟩)) | exact .inr (.inr (.inr rfl))
theorem getSl_cases (v : V) (f : Nat → Nat → Nat → RO) (d : RO) : (∃ b o l c, v = .sl b o l c ∧ getSl v f d = f b o l) ∨ (∃ b o l z, v = .slu b o l z ∧ getSl v f d = f b o l) ∨ getSl v f d = d := by
  cases v <;> first | exact .inl ⟨_, _, _, _, rfl, rfl⟩ | exact .inr (.inl ⟨_, _, _, _, rfl, rfl⟩) | exact .inr (.inr rfl)
theorem eqN_cases (e : Bool) (a b : Nat) (f : V → RO) (slow : RO) : eqN e a b f slow = slow ∨ (a = 0 ∧ b = 0 ∧ eqN e a b f slow = f (.bool e)) ∨ (((a = 0 ∧ b = 1) ∨ (a = 1 ∧ b = 0)) ∧ eqN e a b f slow = f (.bool (not e))) := by
  match a, b with
  | 0, 0 => exact .inr (.inl ⟨rfl, rfl, rfl⟩)
  | 0, 1 => exact .inr (.inr ⟨.inl ⟨rfl, rfl⟩, rfl⟩)
  | 0, b + 2 => exact .inl rfl
  | 1, 0 => exact .inr (.inr ⟨.inr ⟨rfl, rfl⟩, rfl⟩)
  | 1, b + 1 => exact .inl rfl
  | a + 2, b => exact .inl rfl
theorem clsP_0 {v : V} (h : clsP v = 0) : v = .nilp := by cases v <;> first | rfl | (cases h; done)
theorem clsP_1 {v : V} (h : clsP v = 1) : ∃ b o, v = .ptr b o := by cases v <;> first | exact ⟨_, _, rfl⟩ | (cases h; done)
theorem clsS_0 {v : V} (h : clsS v = 0) : v = .nils := by cases v <;> first | rfl | (cases h; done)
theorem clsS_1 {v : V} (h : clsS v = 1) : (∃ b o l c, v = .sl b o l c) ∨ (∃ b o l z, v = .slu b o l z) := by cases v <;> first | exact .inl ⟨_, _, _, _, rfl⟩ | exact .inr ⟨_, _, _, _, rfl⟩ | (cases h; done)
theorem bin2_veq {op : BinOp} {e : Bool} {ty : TypeId} {cc : Bool} {v u : V} {b : Bool} (he : eqOp op = .mk e) (h1 : veq P ty v u = some b) (h2 : ∀ op, ubin op v u = false) (h3 : ∀ op f, vbin P op ty cc v u f = (match op with | .eql => (match veq P ty v u with | some b => f (.bool b) | none => .err (Nat.add 16000000 (Nat.add (Nat.mul 1000 (vtag v)) (vtag u)))) | .neq => (match veq P ty v u with | some b => f (.bool (not b)) | none => .err (Nat.add 16000000 (Nat.add (Nat.mul 1000 (vtag v)) (vtag u)))) | _ => .err 17)) :
    bin2 op P ty cc v u h s k = k (.bool (if b then e else not e)) h s := by
  unfold bin2
  rw [h2]
  dsimp only
  rw [h3]
  cases op <;> first | (cases he; done) | skip
  · injection he with he; subst he; dsimp only; rw [h1]; cases b <;> rfl
  · injection he with he; subst he; dsimp only; rw [h1]; cases b <;> rfl
theorem eqC_eq {op : BinOp} {e : Bool} {ty : TypeId} {cc : Bool} {q : V → Nat} (he : eqOp op = .mk e) (hq : nilKind P ty = .mk q) (v u : V) : eqN e (q v) (q u) (fun v => k v h s) (bin2 op P ty cc v u h s k) = bin2 op P ty cc v u h s k := by
  unfold nilKind at hq
  split at hq
  · rename_i el hu
    injection hq with hq; subst hq
    have hne : veq P ty .nilp .nilp = some true ∧ (∀ b o, veq P ty .nilp (.ptr b o) = some false) ∧ (∀ b o, veq P ty (.ptr b o) .nilp = some false) := by
      refine ⟨?_, fun b o => ?_, fun b o => ?_⟩ <;> (unfold veq; rw [hu])
    rcases eqN_cases e (clsP v) (clsP u) (fun v => k v h s) (bin2 op P ty cc v u h s k) with h1 | ⟨h1, h2, h3⟩ | ⟨h1, h3⟩
    · exact h1
    · rw [h3, clsP_0 h1, clsP_0 h2, bin2_veq he hne.1 (fun _ => rfl) (fun _ _ => rfl)]; rfl
    · rcases h1 with ⟨h1, h2⟩ | ⟨h1, h2⟩
      · obtain ⟨b, o, hb⟩ := clsP_1 h2
        rw [h3, clsP_0 h1, hb, bin2_veq he (hne.2.1 b o) (fun _ => rfl) (fun _ _ => rfl)]; rfl
      · obtain ⟨b, o, hb⟩ := clsP_1 h1
        rw [h3, clsP_0 h2, hb, bin2_veq he (hne.2.2 b o) (fun _ => rfl) (fun _ _ => rfl)]; rfl
  · rename_i el hu
    injection hq with hq; subst hq
    rcases eqN_cases e (clsS v) (clsS u) (fun v => k v h s) (bin2 op P ty cc v u h s k) with h1 | ⟨h1, h2, h3⟩ | ⟨h1, h3⟩
    · exact h1
    · rw [h3, clsS_0 h1, clsS_0 h2, bin2_veq (b := true) he (by unfold veq; rw [hu]) (fun _ => rfl) (fun _ _ => rfl)]; rfl
    · rcases h1 with ⟨h1, h2⟩ | ⟨h1, h2⟩
      · rcases clsS_1 h2 with ⟨b, o, l, c, hb⟩ | ⟨b, o, l, c, hb⟩ <;> rw [h3, clsS_0 h1, hb, bin2_veq (b := false) he (by unfold veq; rw [hu]) (fun _ => rfl) (fun _ _ => rfl)] <;> rfl
      · rcases clsS_1 h1 with ⟨b, o, l, c, hb⟩ | ⟨b, o, l, c, hb⟩ <;> rw [h3, clsS_0 h2, hb, bin2_veq (b := false) he (by unfold veq; rw [hu]) (fun _ => rfl) (fun _ _ => rfl)] <;> rfl
  · cases hq
theorem oneCell_ok {ty : TypeId} (h : oneCell P ty = true) (yes no : RO) : ifAgg P ty yes no = no := by
  unfold oneCell at h
  unfold ifAgg
  split at h <;> first | cases h | skip
  rename_i d h1 h2 hd
  rw [hd]
  cases d <;> first | rfl | exact (h1 _ rfl).elim | exact (h2 _ _ rfl).elim
theorem ld1_eq {ty : TypeId} {b n : Nat} {f : V → RO} (hc : oneCell P ty = true) : QE (ld1 b n h f) (loadV P ty h b n f) := by
  unfold ld1
  refine qget_eq _ _ _ ?_
  unfold loadV
  cases hb : h.get .gone b with
  | cells t m =>
    show QE (bif Nat.ble (Nat.succ n) m then qget un n t f else .err 31) (ifAgg P ty _ (bif Nat.ble (Nat.succ n) m then f (t.get un n) else .err 31))
    rw [oneCell_ok hc]
    cases hl : Nat.ble (Nat.succ n) m with
    | false => exact .err _ _
    | true => exact qget_eq _ _ _ (.refl _)
  | _ => exact .err _ _
theorem putsC_eq : ∀ (l : List V) (i : Nat) (t : T V) {f : T V → RO} {y : RO}, QE (f (T.puts l i t)) y → QE (putsC i l t f) y
  | [], i, t, f, y, hf => hf
  | v :: l, i, t, f, y, hf => by
    show QE (qset i t v (fun t => putsC (Nat.succ i) l t f)) y
    exact qset_eq _ _ _ (putsC_eq l (i + 1) (t.set i v) hf)
theorem retC_ok : ∀ {rs : List ResultVar} {g : T V → List V}, retC rs = .mk g → ∀ t f, resV P t h rs f = f (g t)
  | [], g, hg, t, f => by injection hg with hg; subst hg; rfl
  | .tmp i :: rs, g, hg, t, f => by
    change Bx.rec (motive := fun _ => Bx (T V → List V)) .no (fun g => Bx.rec (motive := fun _ => Bx (T V → List V)) .no (fun gs => .mk (fun t => g t :: gs t)) (retC rs)) (pathG un 64 i) = .mk g at hg
    cases hp : pathG un 64 i with
    | no => rw [hp] at hg; cases hg
    | mk g1 =>
      rw [hp] at hg
      cases hr : retC rs with
      | no => rw [hr] at hg; cases hg
      | mk gs =>
        rw [hr] at hg
        have : g = fun t => g1 t :: gs t := by injection hg with hg; exact hg.symm
        subst this
        show resV P t h rs (fun vs => f (t.get un i :: vs)) = f (g1 t :: gs t)
        rw [retC_ok hr, pathG_get un 64 i g1 hp t]
  | .cell a ty :: rs, g, hg, t, f => by cases hg
theorem finC_eq (P : Program) (rs : List ResultVar) : finC P rs = fun t h s k => fin P rs t h s k := by
  unfold finC
  cases hr : retC rs with
  | no => rfl
  | mk g =>
    funext t h s k
    show k (tupV (g t)) h s = resV P t h rs (fun vs => k (tupV vs) h s)
    rw [retC_ok hr]
theorem callC_eq {f : Nat} {gs : T V → List V} {m : Nat} {q : OC} (hq : callC P pr f gs m = .mk q) (hm : ∀ t, (gs t).length = m) : QE (q ih t h s k) (callV f (gs t) P pr ih h s k) := by
  unfold callC at hq
  unfold callV
  cases hp : pr f with
  | some g => rw [hp] at hq; injection hq with hq; subst hq; exact .refl _
  | none =>
    rw [hp] at hq
    dsimp only at hq ⊢
    cases hf : fnOf P f with
    | none => rw [hf] at hq; cases hq
    | fn c n rs =>
      rw [hf] at hq
      dsimp only at hq ⊢
      rw [len_eq, hm t]
      cases hb : Nat.ble m n with
      | false => rw [hb] at hq; cases hq
      | true =>
        rw [hb] at hq
        simp only [cond_true] at hq ⊢
        injection hq with hq
        subst hq
        rw [finC_eq]
        exact putsC_eq _ _ _ (.refl _)
theorem len_one {l : List V} (h : l.length = 1) : ∃ v, l = [v] := by
  match l, h with
  | [v], _ => exact ⟨v, rfl⟩
theorem oneCell_cells {ty : TypeId} (h : oneCell P ty = true) : ∃ i, P.info? ty = some i := by
  unfold oneCell at h
  split at h <;> first | cases h | skip
  rename_i d h1 h2 hd
  exact info_of_underlying hd
theorem st1_eq {ty : TypeId} {b n : Nat} {v : V} {f : H → RO} (hc : oneCell P ty = true) (h1 : Nat.beq (P.cellsOf ty) 1 = true) :
    QE (st1 b n h v f) (bif Nat.beq (len v.cells) (P.cellsOf ty) then (match P.info? ty with | some _ => storeV h b n v.cells f | none => .err 47) else .err 47) := by
  unfold st1
  refine qget_eq _ _ _ ?_
  cases hb : h.get .gone b with
  | cells t m =>
    show QE (bif Nat.ble (Nat.succ n) m then (bif oneQ v then qset n t v (fun t => qset b h (.cells t m) f) else .err 34) else .err 33) _
    rw [oneQ_eq]
    cases hl : Nat.ble (Nat.succ n) m with
    | false => exact .err _ _
    | true =>
      cases hv : v.one with
      | false => exact .err _ _
      | true =>
        simp only [cond_true]
        refine qset_eq _ _ _ (qset_eq _ _ _ ?_)
        have hcs : v.cells = [v] := by cases v <;> first | rfl | cases hv
        obtain ⟨i, hi⟩ := oneCell_cells hc
        rw [hcs]
        have hcell := Nat.eq_of_beq_eq_true h1
        have hl1 : Nat.beq (len [v]) (P.cellsOf ty) = true := by rw [hcell]; rfl
        rw [hl1, hi]
        simp only [cond_true]
        unfold storeV
        rw [hb]
        have h2 : Nat.ble (Nat.add n (len [v])) m = true := hl
        have h3 : oneAll [v] = true := by show (bif v.one then true else false) = true; rw [hv]; rfl
        dsimp only
        rw [h2, h3]
        exact .refl _
  | _ => exact .err _ _
theorem cellsQ_eq (v : V) : cellsQ v = v.cells := by cases v <;> rfl
theorem getA_cases (v : V) (f : List V → RO) (d : RO) : (∃ l, v = .agg l ∧ getA v f d = f l) ∨ getA v f d = d := by
  cases v <;> first | exact .inl ⟨_, rfl, rfl⟩ | exact .inr rfl
theorem fillQ_eq (place : Nat → Option (Nat × Nat)) : ∀ (l : List (Nat × V)) (pre rest : List V) (f F : List V → RO), (∀ tl, f tl = F (pre ++ tl)) → QE (fillQ place l pre.length rest.length rest f) (fillV place l (pre ++ rest) F)
  | [], pre, rest, f, F, h => by
    show QE (f rest) (F (pre ++ rest))
    rw [h]; exact .refl _
  | p :: l, pre, rest, f, F, h => by
    have e1 : ∀ pos rem rest f, fillQ place (p :: l) pos rem rest f = (match place p.1 with
      | some (o, z) => bif Nat.ble pos o && Nat.beq (len (cellsQ p.2)) z && Nat.ble (Nat.add (Nat.sub o pos) z) rem then
          fillQ place l (Nat.add o z) (Nat.sub rem (Nat.add (Nat.sub o pos) z)) (rest.drop (Nat.add (Nat.sub o pos) z)) (fun tl => f (rest.take (Nat.sub o pos) ++ (cellsQ p.2 ++ tl))) else .err 250
      | none => .err 43) := fun _ _ _ _ => rfl
    have e2 : ∀ cells, fillV place (p :: l) cells F = (match place p.1 with
      | some (o, z) => bif Nat.beq (len p.2.cells) z && Nat.ble (Nat.add o (len p.2.cells)) (len cells) then fillV place l (splice cells p.2.cells o) F else .err 42
      | none => .err 43) := fun _ => rfl
    rw [e1, e2]
    cases hp : place p.1 with
    | none => exact .err _ _
    | some q =>
      obtain ⟨o, z⟩ := q
      dsimp only
      rw [cellsQ_eq]
      cases hc : (Nat.ble pre.length o && Nat.beq (len p.2.cells) z && Nat.ble (Nat.add (Nat.sub o pre.length) z) rest.length) with
      | false => exact .err _ _
      | true =>
        obtain ⟨c1, c2, c3⟩ := and3 hc
        have h1 : pre.length ≤ o := Nat.le_of_ble_eq_true c1
        have h2 := Nat.eq_of_beq_eq_true c2
        have h3 : (o - pre.length) + z ≤ rest.length := Nat.le_of_ble_eq_true c3
        have h2' : p.2.cells.length = z := by rw [← len_eq]; exact h2
        have h4 : (Nat.beq (len p.2.cells) z && Nat.ble (Nat.add o (len p.2.cells)) (len (pre ++ rest))) = true := by
          rw [c2, h2, len_eq, List.length_append]
          have : Nat.ble (Nat.add o z) (pre.length + rest.length) = true := Nat.ble_eq_true_of_le (by show o + z ≤ _; omega)
          rw [this]; rfl
        rw [h4]
        simp only [cond_true]
        obtain ⟨pre', hpre'⟩ : ∃ pre', pre' = pre ++ rest.take (o - pre.length) ++ p.2.cells := ⟨_, rfl⟩
        have hl' : pre'.length = o + z := by rw [hpre', List.length_append, List.length_append, List.length_take, h2']; omega
        have hr' : (rest.drop ((o - pre.length) + z)).length = rest.length - ((o - pre.length) + z) := by rw [List.length_drop]
        have hs : splice (pre ++ rest) p.2.cells o = pre' ++ rest.drop ((o - pre.length) + z) := by
          unfold splice
          rw [len_eq, h2', hpre', List.take_append, List.drop_append, List.take_of_length_le (by omega), List.drop_of_length_le (l := pre) (by omega)]
          simp
          congr 2
          omega
        rw [hs]
        have := fillQ_eq place l pre' (rest.drop ((o - pre.length) + z)) (fun tl => f (rest.take (o - pre.length) ++ (p.2.cells ++ tl))) F (fun tl => by rw [h, hpre']; simp [List.append_assoc])
        rw [hl', hr'] at this
        exact this
theorem partsC_ok : ∀ {l : List (Nat × Operand)} {gs : T V → List (Nat × V)}, partsC l = .mk gs → ∀ (t : T V) (f : List (Nat × V) → RO), opparts t l f = f (gs t)
  | [], gs, h, t, f => by injection h with h; subst h; rfl
  | p :: l, gs, h, t, f => by
    change with1 p.2 (fun g => Bx.rec (motive := fun _ => Bx (T V → List (Nat × V))) .no (fun gs => .mk (fun t => (p.1, g t) :: gs t)) (partsC l)) = .mk gs at h
    obtain ⟨g, h1, h2⟩ := with1_ok h
    cases hl : partsC l with
    | no => rw [hl] at h2; cases h2
    | mk gl =>
      rw [hl] at h2
      have : gs = fun t => (p.1, g t) :: gl t := by injection h2 with h2; exact h2.symm
      subst this
      show opnd t p.2 (fun v => opparts t l (fun vs => f ((p.1, v) :: vs))) = _
      rw [opdC_ok h1, partsC_ok hl]
theorem buildC_eq {place : Nat → Option (Nat × Nat)} {z : List V} {l : List (Nat × Operand)} {slow f : OC} {y : RO} (hf : buildC place z l slow = .mk f) (hs : QE (slow ih t h s k) y) (hy : opparts t l (fun l => fillV place l z (fun cs => k (.agg cs) h s)) = y) : QE (f ih t h s k) y := by
  unfold buildC at hf
  cases ha : ascOk place l 0 with
  | false => rw [ha] at hf; injection hf with hf; subst hf; exact hs
  | true =>
    rw [ha] at hf
    cases hp : partsC l with
    | no => rw [hp] at hf; injection hf with hf; subst hf; exact hs
    | mk gs =>
      rw [hp] at hf
      injection hf with hf; subst hf
      rw [← hy, partsC_ok hp, len_eq]
      exact fillQ_eq place (gs t) [] z (fun cs => k (.agg cs) h s) (fun cs => k (.agg cs) h s) (fun _ => rfl)
theorem opC_ok {dyn : OC} {yl : Nat → List V → H → Nat → K → RO} {f : OC} (hf : opC dyn P pr o = .mk f) (hd : ∀ c x, o.op = .call c → c.callee = .value x → QE (dyn ih t h s k) (opers1 yl o P pr ih t h s k)) : QE (f ih t h s k) (opers1 yl o P pr ih t h s k) := by
  unfold opC at hf
  have gen : ∀ {op : Op}, o.op = op → (∀ c, op ≠ .call c) → (∀ a b c d e, op ≠ .binOp a b c d e) → opers1 yl o P pr ih t h s k = opF op P pr ih t h s k := fun {op} ho h1 h2 => by
    unfold opers1
    rw [ho]
    cases op <;> first | rfl | exact absurd rfl (h1 _) | exact absurd rfl (h2 _ _ _ _ _)
  split at hf
  · rename_i op ty x y yt ho
    obtain ⟨gx, hx, hf⟩ := with1_ok hf
    obtain ⟨gy, hy, hf⟩ := with1_ok hf
    rw [bin2_eq hx hy ho]
    have hb : QE (binC op P ty (isC x y) gx gy ih t h s k) (bin2 op P ty (isC x y) (gx t) (gy t) h s k) := by rw [binC_eq]; exact .refl _
    cases he : eqOp op with
    | no => rw [he] at hf; injection hf with hf; subst hf; exact hb
    | mk e =>
      rw [he] at hf
      cases hq : nilKind P ty with
      | no => rw [hq] at hf; injection hf with hf; subst hf; exact hb
      | mk q =>
        rw [hq] at hf
        injection hf with hf; subst hf
        show QE (eqN e (q (gx t)) (q (gy t)) (fun v => k v h s) (bin2 op P ty (isC x y) (gx t) (gy t) h s k)) _
        rw [eqC_eq he hq]; exact .refl _
  · rename_i x ho
    obtain ⟨gx, hx, hf⟩ := with1_ok hf
    injection hf with hf; subst hf
    rw [gen ho (by simp) (by simp)]
    show QE _ (opnd t x (fun v => k v h s)); rw [opdC_ok hx]; exact .refl _
  · rename_i x ho
    obtain ⟨gx, hx, hf⟩ := with1_ok hf
    injection hf with hf; subst hf
    rw [gen ho (by simp) (by simp)]
    show QE _ (opnd t x (fun v => k v h s)); rw [opdC_ok hx]; exact .refl _
  · rename_i c ho
    split at hf
    · rename_i g hcal
      cases hg : argsC c.args.toList with
      | no => rw [hg] at hf; cases hf
      | mk gs =>
        rw [hg] at hf
        have e1 : opers1 yl o P pr ih t h s k = callV g (gs t) P pr ih h s k := by
          unfold opers1
          rw [ho]
          dsimp only
          rw [hcal]
          show oCall c P pr ih t h s k = _
          unfold oCall
          rw [argsC_ok hg, hcal]
          show callV g (gs t ++ []) P pr ih h s k = _
          rw [List.append_nil]
        rw [e1]
        exact callC_eq hf (fun t => argsC_len hg t)
    · rename_i x _ hcal
      injection hf with hf; subst hf
      exact hd c x ho hcal
    · rename_i hcal
      have e1 : opers1 yl o P pr ih t h s k = oCall c P pr ih t h s k := by
        unfold opers1
        rw [ho]
        dsimp only
        split
        · rename_i x hx; rw [hcal] at hx; cases hx
        · rfl
      rw [e1]
      split at hf
      · rename_i ty rest x hat hargs
        split at hf
        · rename_i el hu
          obtain ⟨gx, hx, hf⟩ := with1_ok hf
          injection hf with hf; subst hf
          dsimp only
          have e2 : ∀ n, lenOk P ty (gx t) = true → (∀ f, lenV h (gx t) f = f n) → oCall c P pr ih t h s k = k (.int .i64 (.ofNat n)) h s := fun n hl hv => by
            unfold oCall
            rw [hargs]
            have one : ∀ F, opnds t [x] F = F [gx t] := fun F => by
              show opnd t x (fun v => F [v]) = _
              rw [opdC_ok hx]
            rw [one, hcal]
            show builtinV .len c.argTypes [gx t] P h s k = _
            unfold builtinV
            rw [hat]
            dsimp only
            rw [hl]
            simp only [cond_true]
            rw [hv]
          rcases getL_cases (gx t) (fun n => k (.int .i64 (.ofNat n)) h s) (oCall c P pr ih t h s k) with ⟨h1, h2⟩ | ⟨b, o', l, c', h1, h2⟩ | ⟨b, o', l, c', h1, h2⟩ | h2
          · rw [h2, e2 0 (by unfold lenOk; rw [hu, h1]) (fun f => by rw [h1]; rfl)]; exact .refl _
          · rw [h2, e2 l (by unfold lenOk; rw [hu, h1]) (fun f => by rw [h1]; rfl)]; exact .refl _
          · rw [h2, e2 l (by unfold lenOk; rw [hu, h1]) (fun f => by rw [h1]; rfl)]; exact .refl _
          · rw [h2]; exact .refl _
        · injection hf with hf; subst hf; exact .refl _
      · injection hf with hf; subst hf; exact .refl _
    · rename_i h1 h2 h3
      injection hf with hf; subst hf
      unfold opers1
      rw [ho]
      dsimp only
      split
      · rename_i x hx; exact absurd hx (h2 x)
      · exact .refl _
  · rename_i ty x ho
    cases hc : oneCell P ty with
    | true =>
      rw [hc] at hf
      simp only [cond_true] at hf
      obtain ⟨gx, hx, hf⟩ := with1_ok hf
      injection hf with hf; subst hf
      rw [gen ho (by simp) (by simp)]
      show QE (getP (gx t) (fun b o => ld1 b o h (fun v => k v h s)) (oLoad ty x P pr ih t h s k)) (oLoad ty x P pr ih t h s k)
      rcases getP_cases (gx t) (fun b o => ld1 b o h (fun v => k v h s)) (oLoad ty x P pr ih t h s k) with ⟨b, n, hv⟩ | hh
      · have he : oLoad ty x P pr ih t h s k = loadV P ty h b n (fun v => k v h s) := by
          unfold oLoad
          rw [opdC_ok hx, hv]
        rw [he, hv]; exact ld1_eq hc
      · rw [hh]; exact .refl _
    | false =>
      rw [hc] at hf
      injection hf with hf; subst hf
      rw [gen ho (by simp) (by simp)]; exact .refl _
  · rename_i ty x y ho
    cases hc : (Nat.beq (P.cellsOf ty) 1 && oneCell P ty) with
    | true =>
      rw [hc] at hf
      simp only [cond_true] at hf
      obtain ⟨c1, c2⟩ := and2 hc
      obtain ⟨gx, hx, hf⟩ := with1_ok hf
      obtain ⟨gy, hy, hf⟩ := with1_ok hf
      injection hf with hf; subst hf
      rw [gen ho (by simp) (by simp)]
      show QE _ (oStore ty x y P pr ih t h s k)
      unfold oStore
      rw [opdC_ok hx]
      dsimp only
      rcases getP_cases (gx t) (fun b o => st1 b o h (gy t) (fun h => k un h s)) (.err 48) with ⟨b, n, hv⟩ | hh
      · rw [hv]
        show QE (st1 b n h (gy t) (fun h => k un h s)) (opnd t y _)
        rw [opdC_ok hy]
        exact st1_eq c2 c1
      · exact .inr ⟨48, hh⟩
    | false =>
      rw [hc] at hf
      injection hf with hf; subst hf
      rw [gen ho (by simp) (by simp)]; exact .refl _
  · rename_i ty x i ho
    rw [gen ho (by simp) (by simp)]
    show QE _ (oFieldAddr ty x i P pr ih t h s k)
    unfold oFieldAddr
    split at hf
    · rename_i fs hu
      rw [hu]
      dsimp only
      split at hf
      · rename_i fd hfd
        rw [hfd]
        dsimp only
        cases hz : Nat.beq (P.cellsOf fd.type) 0 with
        | true => rw [hz] at hf; cases hf
        | false =>
          rw [hz] at hf
          simp only [cond_false] at hf ⊢
          obtain ⟨gx, hx, hf⟩ := with1_ok hf
          injection hf with hf; subst hf
          rw [opdC_ok hx]
          dsimp only
          rcases getP_cases (gx t) (fun b o => fN (Nat.add o fd.offset) (fun o => k (.ptr b o) h s)) (.err 67) with ⟨b, n, hv⟩ | hh
          · rw [hv]
            show QE (fN (Nat.add n fd.offset) (fun o => k (.ptr b o) h s)) _
            rw [fN_eq]; exact .refl _
          · exact .inr ⟨67, hh⟩
      · cases hf
    · cases hf
  · rename_i x ho
    obtain ⟨gx, hx, hf⟩ := with1_ok hf
    injection hf with hf; subst hf
    rw [gen ho (by simp) (by simp)]
    show QE _ (oNilCheck x P pr ih t h s k)
    dsimp only
    rcases getP_cases (gx t) (fun b o => k (.ptr b o) h s) (oNilCheck x P pr ih t h s k) with ⟨b, n, hv⟩ | hh
    · rw [hv]
      unfold oNilCheck
      rw [opdC_ok hx, hv]
      exact .refl _
    · exact .inl hh
  · rename_i x i ho
    obtain ⟨gx, hx, hf⟩ := with1_ok hf
    injection hf with hf; subst hf
    rw [gen ho (by simp) (by simp)]
    show QE _ (oExtract x i P pr ih t h s k)
    unfold oExtract
    rw [opdC_ok hx]
    dsimp only
    rcases getT_cases (gx t) (fun l => match l.drop i with | v :: _ => k v h s | [] => .err 96) (.err 97) with ⟨l, hv⟩ | hh
    · rw [hv]; exact .refl _
    · exact .inr ⟨97, hh⟩
  case h_15 =>
    rename_i a b x ho
    rw [gen ho (by simp) (by simp)]
    cases hq : Nat.beq a b with
    | true => rw [hq] at hf; injection hf with hf; subst hf; show QE _ ((bif Nat.beq a b then oMark a x else oConvert a b x) P pr ih t h s k); rw [hq]; exact .refl _
    | false => rw [hq] at hf; injection hf with hf; subst hf; show QE _ ((bif Nat.beq a b then oMark a x else oConvert a b x) P pr ih t h s k); rw [hq]; exact .refl _
  case h_12 =>
    rename_i ty ps ho
    rw [gen ho (by simp) (by simp)]
    show QE _ (oBuild ty ps P pr ih t h s k)
    split at hf
    · rename_i fs hu
      split at hf
      · rename_i pl z hpl hz
        refine buildC_eq hf (.refl _) ?_
        unfold oBuild
        rw [hu]
        dsimp only
        rw [hpl, hz]
      · injection hf with hf; subst hf; exact .refl _
    · rename_i n el hu
      split at hf
      · rename_i i z hi hz
        refine buildC_eq hf (.refl _) ?_
        unfold oBuild
        rw [hu]
        dsimp only
        rw [hi, hz]
      · injection hf with hf; subst hf; exact .refl _
    · injection hf with hf; subst hf; exact .refl _
  case h_17 =>
    rename_i ty x i ho
    rw [gen ho (by simp) (by simp)]
    show QE _ (oField ty x i P pr ih t h s k)
    split at hf
    · rename_i fs hu
      split at hf
      · rename_i fd hfd
        cases hc : oneCell P fd.type with
        | false => rw [hc] at hf; injection hf with hf; subst hf; exact .refl _
        | true =>
          rw [hc] at hf
          simp only [cond_true] at hf
          obtain ⟨gx, hx, hf⟩ := with1_ok hf
          injection hf with hf; subst hf
          unfold oField
          rw [hu]
          dsimp only
          rw [hfd]
          dsimp only
          rw [opdC_ok hx]
          generalize gx t = v
          cases v <;> first | exact .inr ⟨70, rfl⟩ | skip
          rename_i l
          show QE _ (partV P fd.type l fd.offset (fun v => k v h s))
          unfold partV
          rw [oneCell_ok hc]
          exact .refl _
      · injection hf with hf; subst hf; exact .refl _
    · injection hf with hf; subst hf; exact .refl _
  case h_14 =>
    rename_i op ty x ho
    rw [gen ho (by simp) (by simp)]
    show QE _ (oUn op ty x P pr ih t h s k)
    split at hf
    · obtain ⟨gx, hx, hf⟩ := with1_ok hf
      injection hf with hf; subst hf
      unfold oUn
      rw [opdC_ok hx]
      dsimp only
      rcases getB_cases (gx t) (k (.bool false) h s) (k (.bool true) h s) (.err 51) with ⟨b, hb, h2⟩ | h2
      · rw [h2, hb]; cases b <;> exact .refl _
      · exact .inr ⟨51, h2⟩
    · injection hf with hf; subst hf; exact .refl _
  case h_18 =>
    rename_i ty x i ho
    rw [gen ho (by simp) (by simp)]
    show QE _ (oIndexAddr ty x i P pr ih t h s k)
    split at hf
    · rename_i el hu
      obtain ⟨gx, hx, hf⟩ := with1_ok hf
      obtain ⟨gi, hi, hf⟩ := with1_ok hf
      dsimp only at hf
      cases hz : Nat.ble 1 (P.cellsOf el) with
      | false => rw [hz] at hf; injection hf with hf; subst hf; exact .refl _
      | true =>
        rw [hz] at hf
        injection hf with hf; subst hf
        dsimp only
        have body : ∀ b o' l (sl : V), gx t = sl → (∀ kd n, (match P.underlying ty, sl, V.int kd (.ofNat n) with
            | some (.array n' e), .ptr b o, .int _ (.ofNat i) => bif Nat.ble (Nat.succ i) n' && Nat.ble 1 (P.cellsOf e) then k (.ptr b (Nat.add o (Nat.mul i (P.cellsOf e)))) h s else .err 72
            | some (.slice e), .sl b o l c, .int _ (.ofNat i) => bif Nat.ble (Nat.succ i) l && Nat.ble 1 (P.cellsOf e) then k (.ptr b (Nat.add o (Nat.mul i (P.cellsOf e)))) h s else .err 73
            | some (.slice e), .slu b o l z, .int _ (.ofNat i) => bif Nat.ble (Nat.succ i) l && Nat.ble 1 (P.cellsOf e) then k (.ptr b (Nat.add o (Nat.mul i (P.cellsOf e)))) h s else .err 74
            | some (.slice e), .xsl j o l, .int _ (.ofNat i) => bif Nat.ble (Nat.succ i) l && Nat.beq (P.cellsOf e) 1 then k (.xp j (Nat.add o i)) h s else .err 79
            | _, _, _ => .err 75 : RO) = (bif Nat.ble (Nat.succ n) l then k (.ptr b (Nat.add o' (Nat.mul n (P.cellsOf el)))) h s else RO.err 73) ∨ Nat.ble (Nat.succ n) l = false) →
            QE (getI (gi t) (fun _ i => Int.rec (motive := fun _ => RO) (fun i => bif Nat.ble (Nat.succ i) l then fN (Nat.add o' (Nat.mul i (P.cellsOf el))) (fun o => k (.ptr b o) h s) else .err 73) (fun _ => .err 75) i) (.err 75)) (oIndexAddr ty x i P pr ih t h s k) := fun b o' l sl hsl hm => by
          unfold oIndexAddr
          rw [opdC_ok hx, opdC_ok hi, hsl]
          rcases getI_cases (gi t) (fun _ i => Int.rec (motive := fun _ => RO) (fun i => bif Nat.ble (Nat.succ i) l then fN (Nat.add o' (Nat.mul i (P.cellsOf el))) (fun o => k (.ptr b o) h s) else .err 73) (fun _ => .err 75) i) (.err 75) with ⟨kd, n, hn⟩ | h2
          · rw [hn, getI_int]
            cases n with
            | negSucc m => exact .err _ _
            | ofNat m =>
              show QE (bif Nat.ble (Nat.succ m) l then fN (Nat.add o' (Nat.mul m (P.cellsOf el))) (fun o => k (.ptr b o) h s) else .err 73) _
              cases hb : Nat.ble (Nat.succ m) l with
              | false => exact .err _ _
              | true =>
                rcases hm kd m with h3 | h3
                · rw [cond_true, fN_eq]
                  exact .inl (h3.trans (by rw [hb]; rfl)).symm
                · rw [h3] at hb; cases hb
          · exact .inr ⟨75, h2⟩
        rcases getSl_cases (gx t) (fun b o l => getI (gi t) (fun _ i => Int.rec (motive := fun _ => RO) (fun i => bif Nat.ble (Nat.succ i) l then fN (Nat.add o (Nat.mul i (P.cellsOf el))) (fun o => k (.ptr b o) h s) else .err 73) (fun _ => .err 75) i) (.err 75)) (oIndexAddr ty x i P pr ih t h s k) with ⟨b, o', l, c, h1, h2⟩ | ⟨b, o', l, c, h1, h2⟩ | h2
        · rw [h2]
          refine body b o' l _ h1 (fun kd n => ?_)
          rw [hu]
          dsimp only
          rw [hz]
          cases hb : Nat.ble (Nat.succ n) l with
          | false => exact .inr rfl
          | true => exact .inl rfl
        · rw [h2]
          refine body b o' l _ h1 (fun kd n => ?_)
          rw [hu]
          dsimp only
          rw [hz]
          cases hb : Nat.ble (Nat.succ n) l with
          | false => exact .inr rfl
          | true => exact .inl rfl
        · rw [h2]; exact .refl _
    · injection hf with hf; subst hf; exact .refl _
  case h_20 =>
    rename_i c a b ho
    rw [gen ho (by simp) (by simp)]
    show QE _ (oPick c a b P pr ih t h s k)
    obtain ⟨gc, hc, hf⟩ := with1_ok hf
    obtain ⟨ga, ha, hf⟩ := with1_ok hf
    obtain ⟨gb, hb, hf⟩ := with1_ok hf
    injection hf with hf; subst hf
    unfold oPick
    rw [opdC_ok hc]
    dsimp only
    rcases getB_cases (gc t) (k (ga t) h s) (k (gb t) h s) (.err 40) with ⟨b', hb', h2⟩ | h2
    · rw [h2, hb']
      cases b' with
      | true => show QE _ (opnd t a _); rw [opdC_ok ha]; exact .refl _
      | false => show QE _ (opnd t b _); rw [opdC_ok hb]; exact .refl _
    · exact .inr ⟨40, h2⟩
  case h_30 =>
    rename_i hb _ _ hc _ _ _ _ _ _ _ _ _ _ _ _ _ _ _ _ _ _ _ _ _ _ _ _ _
    injection hf with hf; subst hf
    rw [gen rfl (fun c h => hc c h) (fun a b c d e h => hb a b c d e h)]; exact .refl _
  all_goals
    rename_i ho; injection hf with hf; subst hf; rw [gen ho (by simp) (by simp)]; exact .refl _
end Go.Ev
