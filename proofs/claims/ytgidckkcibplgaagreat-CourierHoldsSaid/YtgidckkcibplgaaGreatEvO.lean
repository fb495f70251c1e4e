/- An evaluator of the model's code, fifteenth part: the built-in functions, and what is called. An evaluator of the model's code, sixteenth part: calls, and every operation. -/
import Derived.Test.YtgidckkcibplgaaGreatEvL
set_option linter.unusedVariables false
set_option linter.unusedSimpArgs false
namespace Go.Ev
variable {D : List Deferred}
variable {P : Program} {pr : Prims} {ih : Rn} {e : Env} {t : T V} {h : H} {s : Nat} {w : World} {a : Act} {r : RO} {k : K} {o : Oper}
theorem ER.length : ∀ {l ms}, ER e l ms → l.length = ms.length
  | _, _, .nil => rfl
  | _, _, .cons _ _ t => by simp [ER.length t]
theorem lenV_ok {t : TypeId} {x : V} {f : Nat → RO} {at_ : Array TypeId} {ty : TypeId} (hk : lenV h x f = r) (hr : r.good) (hs : Sim e h w) {xv : Value} (hx : VR e x xv) (h0 : at_[0]? = some t) (hl : lenOk P t x = true) :
    ∃ n, f n = r ∧ (Builtin.len_ at_ ty #[xv]).run P w = .ok (goInt n) w := by
  unfold lenOk at hl
  split at hl
  · rename_i hu; cases hx; exact ⟨_, hk, by simp [Builtin.len_, h0, run_under hu, Result.andThen]⟩
  · rename_i hu; cases hx; exact ⟨_, hk, by simp [Builtin.len_, h0, run_under hu, Result.andThen]⟩
  · rename_i hu; cases hx <;> exact ⟨_, hk, by simp [Builtin.len_, h0, run_under hu, Result.andThen]⟩
  · rename_i hu; cases hx <;> exact ⟨_, hk, by simp [Builtin.len_, h0, run_under hu, Result.andThen]⟩
  · rename_i hu; cases hx; exact ⟨_, hk, by simp [Builtin.len_, h0, run_under hu, Result.andThen]⟩
  · rename_i hu; cases hx; exact ⟨_, hk, by simp [Builtin.len_, h0, run_under hu, Result.andThen]⟩
  · rename_i hu
    cases hx with
    | map hb =>
      simp only [lenV] at hk
      split at hk
      · rename_i es c hbl
        obtain ⟨hl, _, ms, hw, hes⟩ := map_at hs hbl hb
        have hg := MapKept.run_getObj_map (P := P) hw
        exact ⟨_, hk, by simp [Builtin.len_, h0, run_under hu, Result.andThen, hg, hes.length]⟩
      · subst hk; cases hr
  · cases hl
theorem ext_max : ∀ {l : List V} {kd : IntKind} {x : Int} {f : V → RO} (hk : ext ilt kd l x f = r) (hr : r.good) {xs : List Value} (hl : VRs e l xs), ∃ v z, f v = r ∧ VR e v z ∧ (xs.foldlM Builtin.max2 (.int kd x)).run P w = .ok z w
  | [], kd, x, f, hk, hr, _, .nil => ⟨_, _, hk, .int _ _, rfl⟩
  | v :: l, kd, x, f, hk, hr, _, .cons (x := y) hv ht => by
    by_cases hint : ∃ kb b, v = .int kb b
    · obtain ⟨kb, b, rfl⟩ := hint
      cases hv
      change ext ilt kd l (bif ilt x b then b else x) f = r at hk
      obtain ⟨u, z, h1, h2, h3⟩ := ext_max hk hr ht
      refine ⟨u, z, h1, h2, ?_⟩
      have hc : (bif ilt x b then b else x) = if b > x then b else x := by rw [ilt_eq]; by_cases hxb : x < b <;> simp [hxb]
      rw [hc] at h3
      simpa [List.foldlM_cons, Builtin.max2, Result.andThen] using h3
    · cases v <;> first | exact absurd ⟨_, _, rfl⟩ hint | (change RO.err 110 = r at hk; subst hk; cases hr)
theorem ext_min : ∀ {l : List V} {kd : IntKind} {x : Int} {f : V → RO} (hk : ext (fun a b => ilt b a) kd l x f = r) (hr : r.good) {xs : List Value} (hl : VRs e l xs), ∃ v z, f v = r ∧ VR e v z ∧ (xs.foldlM Builtin.min2 (.int kd x)).run P w = .ok z w
  | [], kd, x, f, hk, hr, _, .nil => ⟨_, _, hk, .int _ _, rfl⟩
  | v :: l, kd, x, f, hk, hr, _, .cons (x := y) hv ht => by
    by_cases hint : ∃ kb b, v = .int kb b
    · obtain ⟨kb, b, rfl⟩ := hint
      cases hv
      change ext (fun a b => ilt b a) kd l (bif ilt b x then b else x) f = r at hk
      obtain ⟨u, z, h1, h2, h3⟩ := ext_min hk hr ht
      refine ⟨u, z, h1, h2, ?_⟩
      have hc : (bif ilt b x then b else x) = if b < x then b else x := by rw [ilt_eq]; by_cases hxb : b < x <;> simp [hxb]
      rw [hc] at h3
      simpa [List.foldlM_cons, Builtin.min2, Result.andThen] using h3
    · cases v <;> first | exact absurd ⟨_, _, rfl⟩ hint | (change RO.err 110 = r at hk; subst hk; cases hr)
theorem sxOf_val {x : V} {k : IntKind} {a : SX} (h : sxOf x = some (k, a)) {xv : Value} (hx : VR e x xv) : xv = .int k (a.den e.base.ρ) := by
  unfold sxOf at h
  split at h
  · injection h with h; injection h with h1 h2; subst h1 h2
    cases hx with
    | sx h1 _ => rw [h1]
  · injection h with h; injection h with h1 h2; subst h1 h2
    cases hx; rfl
  · cases h
theorem lext_max {x y : V} {f : V → RO} (hk : lext .leq .geq x y f = r) (hr : r.good) {xv yv : Value} (hx : VR e x xv) (hy : VR e y yv) : ∃ v z, f v = r ∧ VR e v z ∧ ([yv].foldlM Builtin.max2 xv).run P w = .ok z w := by
  unfold lext at hk
  split at hk
  · rename_i k a k' b h1 h2
    obtain ⟨hkk, hk2⟩ := bif_ok hk (by simp [RO.good]) hr
    clear hk
    have := keq_eq hkk
    subst this
    have e1 := sxOf_val h1 hx
    have e2 := sxOf_val h2 hy
    split at hk2
    · rename_i hl
      obtain ⟨_, g2⟩ := lcmp_ok (show Smalls e.base.ρ from e.base.sm) hl
      have g2 : a.den e.base.ρ ≤ b.den e.base.ρ := by simpa [cmpB] using g2
      refine ⟨_, _, hk2, hy, ?_⟩
      subst e1 e2
      by_cases hlt : a.den e.base.ρ < b.den e.base.ρ
      · simp [List.foldlM_cons, Builtin.max2, Result.andThen, hlt]
      · have : a.den e.base.ρ = b.den e.base.ρ := by omega
        simp [List.foldlM_cons, Builtin.max2, Result.andThen, this]
    · rename_i hl
      obtain ⟨_, g2⟩ := lcmp_ok (show Smalls e.base.ρ from e.base.sm) hl
      have g2 : ¬ (a.den e.base.ρ ≤ b.den e.base.ρ) := by simpa [cmpB] using g2
      refine ⟨_, _, hk2, hx, ?_⟩
      subst e1 e2
      have hlt : ¬ (a.den e.base.ρ < b.den e.base.ρ) := by omega
      simp [List.foldlM_cons, Builtin.max2, Result.andThen, hlt]
    · split at hk2
      · rename_i hl
        obtain ⟨_, g2⟩ := lcmp_ok (show Smalls e.base.ρ from e.base.sm) hl
        have g2 : b.den e.base.ρ ≤ a.den e.base.ρ := by simpa [cmpB] using g2
        refine ⟨_, _, hk2, hx, ?_⟩
        subst e1 e2
        have hlt : ¬ (a.den e.base.ρ < b.den e.base.ρ) := by omega
        simp [List.foldlM_cons, Builtin.max2, Result.andThen, hlt]
      · subst hk2; cases hr
  · subst hk; cases hr
theorem lext_min {x y : V} {f : V → RO} (hk : lext .geq .leq x y f = r) (hr : r.good) {xv yv : Value} (hx : VR e x xv) (hy : VR e y yv) : ∃ v z, f v = r ∧ VR e v z ∧ ([yv].foldlM Builtin.min2 xv).run P w = .ok z w := by
  unfold lext at hk
  split at hk
  · rename_i k a k' b h1 h2
    obtain ⟨hkk, hk2⟩ := bif_ok hk (by simp [RO.good]) hr
    clear hk
    have := keq_eq hkk
    subst this
    have e1 := sxOf_val h1 hx
    have e2 := sxOf_val h2 hy
    split at hk2
    · rename_i hl
      obtain ⟨_, g2⟩ := lcmp_ok (show Smalls e.base.ρ from e.base.sm) hl
      have g2 : b.den e.base.ρ ≤ a.den e.base.ρ := by simpa [cmpB] using g2
      refine ⟨_, _, hk2, hy, ?_⟩
      subst e1 e2
      by_cases hlt : b.den e.base.ρ < a.den e.base.ρ
      · simp [List.foldlM_cons, Builtin.min2, Result.andThen, hlt]
      · have : a.den e.base.ρ = b.den e.base.ρ := by omega
        simp [List.foldlM_cons, Builtin.min2, Result.andThen, this]
    · rename_i hl
      obtain ⟨_, g2⟩ := lcmp_ok (show Smalls e.base.ρ from e.base.sm) hl
      have g2 : ¬ (b.den e.base.ρ ≤ a.den e.base.ρ) := by simpa [cmpB] using g2
      refine ⟨_, _, hk2, hx, ?_⟩
      subst e1 e2
      have hlt : ¬ (b.den e.base.ρ < a.den e.base.ρ) := by omega
      simp [List.foldlM_cons, Builtin.min2, Result.andThen, hlt]
    · split at hk2
      · rename_i hl
        obtain ⟨_, g2⟩ := lcmp_ok (show Smalls e.base.ρ from e.base.sm) hl
        have g2 : a.den e.base.ρ ≤ b.den e.base.ρ := by simpa [cmpB] using g2
        refine ⟨_, _, hk2, hx, ?_⟩
        subst e1 e2
        have hlt : ¬ (b.den e.base.ρ < a.den e.base.ρ) := by omega
        simp [List.foldlM_cons, Builtin.min2, Result.andThen, hlt]
      · subst hk2; cases hr
  · subst hk; cases hr
theorem copyTo_ok {x y : V} {n z : Nat} {cs : List V} (hk : copyTo h x n cs z s k = r) (hr : r.good) (hs : Sim e h w) (hf : Free e s) {xv yv : Value} {xs : List Value} {at_ : Array TypeId} {t el ty : TypeId} {i : TypeInfo} (hx : VR e x xv)
    (hcs : VRs e cs xs) (hl : xs.length = n * z) (h0 : at_[0]? = some t) (hu : P.underlying t = some (.slice el)) (hi : P.info? el = some i) (hz : z = P.cellsOf el) (hlen : (Builtin.lenOf yv).run P w = .ok n w)
    (hfc : ∀ m, m ≤ n → (Builtin.firstCells z m yv).run P w = .ok ⟨xs.take (m * z)⟩ w) :
    ∃ v h' s', k v h' s' = r ∧ ∃ u w', (Builtin.copy_ at_ ty #[xv, yv]).run P w = .ok u w' ∧ Good e s h w v h' s' u w' := by
  subst hz
  have gen : ∀ (b : Option Addr) (l c : Nat) (w' : World), (match b with | some a => storeCells a (xs.take (min n l * P.cellsOf el)) | none => pure () : Sem Unit).run P w = .ok () w' → (Builtin.copy_ at_ ty #[.slice b l c, yv]).run P w = .ok (.int .i64 (min n l : Nat)) w' := by
    intro b l c w' hw'
    have hm := hfc (min n l) (Nat.min_le_left _ _)
    cases b with
    | none =>
      have : w' = w := by simp only [Sem.run_pure] at hw'; injection hw' with _ h2; exact h2.symm
      subst this
      simp [Builtin.copy_, h0, run_under hu, Result.andThen, hlen, run_sizeOf' hi, hm, goInt]
    | some b =>
      simp only at hw'
      simp [Builtin.copy_, h0, run_under hu, Result.andThen, hlen, run_sizeOf' hi, hm, hw', goInt]
  unfold copyTo at hk
  split at hk
  · cases hx
    refine ⟨_, h, s, hk, _, w, gen none 0 0 w rfl, e, ?_, Post.refl hs hf⟩
    rw [Nat.min_zero]; exact .int _ _
  · rename_i b off l c
    rw [imin_eq] at hk
    cases hz : Nat.beq (min n l) 0 with
    | true =>
      rw [hz] at hk
      have hz := Nat.eq_of_beq_eq_true hz
      obtain ⟨bv, cv, rfl⟩ : ∃ bv cv, xv = .slice bv l cv := by cases hx <;> exact ⟨_, _, rfl⟩
      refine ⟨_, h, s, hk, _, w, gen bv l cv w (by rw [hz]; cases bv <;> simp [storeCells]), e, ?_, Post.refl hs hf⟩
      rw [hz]; exact .int _ _
    | false =>
      rw [hz] at hk
      have hz := Nat.ne_of_beq_eq_false hz
      simp only [cond_false] at hk
      have hk' := hk
      cases hx with
      | @sl _ _ _ _ nb sh sz hb hlc =>
        obtain ⟨h', w', k1, k2, k3⟩ := storeV_ok (P := P) hk' hr hs hf hb (hcs.take _)
        exact ⟨_, h', s, k1, _, w', gen (some ⟨nb, sh + off, none⟩) l c w' k2, e, .int _ _, k3⟩
      | sl0 hb => simp at hz
  · rename_i b off l z0
    rw [imin_eq] at hk
    cases hz : Nat.beq (min n l) 0 with
    | true =>
      rw [hz] at hk
      have hz := Nat.eq_of_beq_eq_true hz
      obtain ⟨bv, cv, rfl⟩ : ∃ bv cv, xv = .slice bv l cv := by cases hx <;> exact ⟨_, _, rfl⟩
      refine ⟨_, h, s, hk, _, w, gen bv l cv w (by rw [hz]; cases bv <;> simp [storeCells]), e, ?_, Post.refl hs hf⟩
      rw [hz]; exact .int _ _
    | false =>
      rw [hz] at hk
      have hz := Nat.ne_of_beq_eq_false hz
      simp only [cond_false] at hk
      have hk' := hk
      cases hx with
      | @slu _ _ _ _ c nb sh sz hb hlc hcz =>
        obtain ⟨h', w', k1, k2, k3⟩ := storeV_ok (P := P) hk' hr hs hf hb (hcs.take _)
        exact ⟨_, h', s, k1, _, w', gen (some ⟨nb, sh + off, none⟩) l c w' k2, e, .int _ _, k3⟩
      | slu0 hb hx0 => simp at hz
  · subst hk; cases hr
end Go.Ev
namespace Go.Ev
variable {D : List Deferred}
variable {P : Program} {pr : Prims} {ih : Rn} {e : Env} {t : T V} {h : H} {s : Nat} {w : World} {a : Act} {r : RO} {k : K} {o : Oper}
/-- What a piece of code leaves, in the model. -/
def LR (D : List Deferred) (r : RO) (e : Env) (s : Nat) (h : H) (w : World) (x : Exit) (a' : Act) (w' : World) : Prop :=
  match r with
  | .norm t' h' s' => x = .normal ∧ ∃ e', AR D e' t' a' ∧ Post e s h w e' s' h' w'
  | .exit id t' h' s' => x = .exit id ∧ ∃ e', AR D e' t' a' ∧ Post e s h w e' s' h' w'
  | .ret t' h' s' => x = .ret ∧ ∃ e', AR D e' t' a' ∧ Post e s h w e' s' h' w'
  | .err _ => False
  | .or p q => LR D p e s h w x a' w' ∨ LR D q e s h w x a' w'
theorem LR.sub {l : RO} (hl : Sub l r) {x : Exit} {a' : Act} {w' : World} (q : LR D l e s h w x a' w') : LR D r e s h w x a' w' := by
  induction hl with
  | refl => exact q
  | left _ ih => exact .inl ih
  | right _ ih => exact .inr ih
def RO.leafy : RO → Prop
  | .or _ _ => False
  | _ => True
theorem LR.leaf : ∀ {r : RO} {x : Exit} {a' : Act} {w' : World}, LR D r e s h w x a' w' → ∃ l, Sub l r ∧ l.leafy ∧ LR D l e s h w x a' w'
  | .norm .., _, _, _, q => ⟨_, .refl _, trivial, q⟩
  | .exit .., _, _, _, q => ⟨_, .refl _, trivial, q⟩
  | .ret .., _, _, _, q => ⟨_, .refl _, trivial, q⟩
  | .err _, _, _, _, q => q.elim
  | .or p1 p2, _, _, _, q => by
    rcases q with q | q
    · obtain ⟨l, g1, g2, g3⟩ := LR.leaf q; exact ⟨l, .left g1, g2, g3⟩
    · obtain ⟨l, g1, g2, g3⟩ := LR.leaf q; exact ⟨l, .right g1, g2, g3⟩
/-- What is gone on with, by one of the ways. -/
abbrev GoodK (k : K) (r : RO) (e : Env) (s : Nat) (h : H) (w : World) (x : Value) (w' : World) : Prop := ∃ v h' s', Sub (k v h' s') r ∧ Good e s h w v h' s' x w'
abbrev CallOk (P : Program) (f : FuncId) (args : List V) (s : Nat) (h : H) (k : K) (r : RO) : Prop := ∀ e w xs, VRs e args xs → Sim e h w → Free e s →
  (callFunc f ⟨xs⟩).run P w = .ok (.enter f ⟨xs⟩) w ∧ Calls P f ⟨xs⟩ w (fun en w' => ∃ x, en = .returned x ∧ GoodK k r e s h w x w')
abbrev OpOkK (P : Program) (e : Env) (s : Nat) (h : H) (w : World) (a : Act) (o : Oper) (k : K) (r : RO) : Prop := Gives P (execOp a.eval o) w (GoodK k r e s h w)
theorem Gives.mono {m : Sem Next} {R R' : Value → World → Prop} (hg : Gives P m w R) (hr : ∀ x w', R x w' → R' x w') : Gives P m w R' := by
  unfold Gives at hg ⊢
  generalize m.run P w = res at *
  cases res with
  | halt x w' => exact hg
  | ok n w' =>
    cases n with
    | value x => exact hr _ _ hg
    | skip => exact hr _ _ hg
    | enter f args => exact Calls.mono hg (fun en w'' ⟨x, he, hx⟩ => ⟨x, he, hr _ _ hx⟩)
    | _ => exact hg
theorem OpOk.toK (p : OpOk P e s h w a o k r) : OpOkK P e s h w a o k r := by
  obtain ⟨v, h', s', h1, h2⟩ := p
  exact Gives.mono h2 (fun x w' hx => ⟨v, h', s', h1 ▸ .refl _, hx⟩)
structure SoundRn (P : Program) (ih : Rn) : Prop where
  wp : ∀ c t h s, (ih c t h s).good → ∀ D e a w, AR D e t a → Sim e h w → Free e s → c.wp P (LR D (ih c t h s) e s h w) a w
  loop : ∀ c t h s, (ih (.loop c) t h s).good → ∀ D e a w, AR D e t a → Sim e h w → Free e s → ∀ (b : Frame) (k : List Item) (cs : List Frame), ∃ x a' w', LR D (ih (.loop c) t h s) e s h w x a' w' ∧ Arrives P (lone (b.at a (.code c :: .inLoop c :: k)) cs w) b k cs x a' w'
def SoundPr (P : Program) (pr : Prims) : Prop := ∀ f g, pr f = some g → ∀ args h s k, (g args h s k).good → CallOk P f args s h k (g args h s k)
theorem sl_form {b o l c : Nat} {xv : Value} (hx : VR e (.sl b o l c) xv) : ∃ bv, xv = .slice bv l c := by cases hx <;> exact ⟨_, rfl⟩
theorem delE_ok {kt : TypeId} {x : V} {xv : Value} {d : TypeDesc} (hu : P.underlying kt = some d) (hx : VR e x xv) (hd : KOk P kt d x) : ∀ {l : List (V × V × Nat)} {ms : List MapEntry} {f : List (V × V × Nat) → RO} (j : Nat),
    delE P kt x l f = r → r.good → ER e l ms → ∃ es, f es = r ∧ ((KFind P kt d xv ms j none ∧ ER e es ms) ∨ ∃ i old, KFind P kt d xv ms j (some (j + i, old)) ∧ i < ms.length ∧ ER e es (ms.eraseIdx i))
  | [], _, f, j, hk, hr, .nil => ⟨_, hk, .inl ⟨.nil, .nil⟩⟩
  | (pk, pv, pn) :: l, _, f, j, hk, hr, .cons (x := pkv) (y := pvv) (es := ms) hkk hpv ht => by
    change (match keyEq P kt x pk with | some true => f l | some false => delE P kt x l (fun q => f ((pk, pv, pn) :: q)) | none => .err 83) = r at hk
    split at hk
    · rename_i heq
      obtain ⟨g1, g2⟩ := keyEq_ok hu heq hx hkk hd
      exact ⟨_, hk, .inr ⟨0, pvv, KFind.hit g1, by simp, by simpa using ht⟩⟩
    · rename_i heq
      obtain ⟨g1, g2⟩ := keyEq_ok hu heq hx hkk hd
      obtain ⟨es, h1, h2⟩ := delE_ok hu hx hd (j + 1) hk hr ht
      refine ⟨_, h1, ?_⟩
      rcases h2 with ⟨h3, h4⟩ | ⟨i, old, h3, h4, h5⟩
      · exact .inl ⟨.miss g1 h3, .cons hkk hpv h4⟩
      · refine .inr ⟨i + 1, old, ?_, by simpa using h4, ?_⟩
        · have := KFind.miss (en := ⟨pkv, pvv, pn⟩) g1 h3; rwa [show j + 1 + i = j + (i + 1) by omega] at this
        · simpa using ER.cons hkk hpv h5
    · subst hk; cases hr
theorem run_delete {at_ : Array TypeId} {mt ty kt et : TypeId} {d : TypeDesc} {n cl : Nat} {ms : List MapEntry} {xv : Value} {res : Option (Nat × Value)} (h0 : at_[0]? = some mt) (hu : P.underlying mt = some (.map kt et)) (hd : P.underlying kt = some d) (hik : ∀ b w, (Instr.checkKey b 10000 kt xv).run P w = .ok () w)
    (hw : w.heap[n]? = some (.map ⟨ms⟩ cl)) (hf : KFind P kt d xv ms 0 res) :
    (Builtin.delete_ at_ ty #[.map (some n), xv]).run P w = .ok (.tuple #[]) { w with heap := w.heap.setIfInBounds n (match res with | some (i, _) => .map ((⟨ms⟩ : Array MapEntry).eraseIdxIfInBounds i) cl | none => .map ⟨ms⟩ cl) } := by
  have hfk := hf.run (w := w) hd
  have hg : (getObj n).run P w = .ok (.map ⟨ms⟩ cl) w := MapKept.run_getObj_map hw
  have hck : ∀ b, (Instr.checkKey b 10000 kt xv).run P w = .ok () w := fun b => hik b w
  cases res with
  | none => simp [Builtin.delete_, h0, run_under hu, Result.andThen, hg, hck, hfk, MapKept.run_setObj_map _ hw]
  | some p =>
    obtain ⟨i, old⟩ := p
    simp [Builtin.delete_, h0, run_under hu, Result.andThen, hg, hck, hfk, MapKept.run_setObj_map _ hw]
theorem builtinV_ok {b : Builtin} {at_ : Array TypeId} {args : List V} {xs : List Value} {ty : TypeId} {cs : Array Bool} (hk : builtinV b at_ args P h s k = r) (hr : r.good) (hs : Sim e h w) (hf : Free e s) (hx : VRs e args xs) :
    ∃ v h' s', k v h' s' = r ∧ ∃ z w', (builtin b at_ ty cs ⟨xs⟩).run P w = .ok (.value z) w' ∧ Good e s h w v h' s' z w' := by
  unfold builtinV at hk
  split at hk
  · split at hk
    · rename_i tt u rest x y hat
      have h0 : at_[0]? = some tt := by rw [← Array.getElem?_toList, hat]; rfl
      have h1 : at_[1]? = some u := by rw [← Array.getElem?_toList, hat]; rfl
      cases hx with
      | cons hx ht => cases ht with
        | cons hy ht => cases ht with
          | nil =>
            split at hk
            · rename_i el hu
              cases hn : noInt P u with
              | true =>
                rw [hn] at hk
                simp only [cond_true] at hk
                obtain ⟨d, hd, hdn⟩ := noInt_ok hn
                split at hk
                · rename_i i hi
                  obtain ⟨v, h', s', g1, z, w', g2, g3⟩ := appendV_ok (ty := ty) hk hr hs hf hx hy h0 h1 hu hd hdn hi
                  exact ⟨v, h', s', g1, z, w', run_v g2, g3⟩
                · subst hk; cases hr
              | false =>
                rw [hn] at hk
                simp only [cond_false] at hk
                split at hk
                · rename_i kd i n hui hi
                  cases hy
                  obtain ⟨v, h', s', g1, z, w', g2, g3⟩ := appendZ_ok (ty := ty) hk hr hs hf hx h0 h1 hu hui hi
                  exact ⟨v, h', s', g1, z, w', run_v g2, g3⟩
                · subst hk; cases hr
            · subst hk; cases hr
    · subst hk; cases hr
  · split at hk
    · rename_i tt rest x hat
      have h0 : at_[0]? = some tt := by rw [← Array.getElem?_toList, hat]; rfl
      cases hx with
      | cons hx ht => cases ht with
        | nil =>
          cases hl : lenOk P tt x with
          | true =>
            rw [hl] at hk
            simp only [cond_true] at hk
            obtain ⟨n, g1, g2⟩ := lenV_ok (ty := ty) hk hr hs hx h0 hl
            exact ⟨_, h, s, g1, _, w, run_v g2, e, .int _ _, Post.refl hs hf⟩
          | false =>
            rw [hl] at hk
            simp only [cond_false] at hk
            split at hk
            · rename_i hu
              cases hx with
              | @usl b l c _ _ h1 h2 =>
                exact ⟨_, h, s, hk, .int .i64 (l : Int), w, run_v (by simp [Builtin.len_, h0, run_under hu, Result.andThen, goInt]), e, .iv (Int.ofNat_le.2 h1) (Int.ofNat_le.2 h2), Post.refl hs hf⟩
            · rename_i hu
              cases hx with
              | @xsu _ _ a0 b l c0 c h1 h2 h3 =>
                exact ⟨_, h, s, hk, .int .i64 (l : Int), w, run_v (by simp [Builtin.len_, h0, run_under hu, Result.andThen, goInt]), e, .iv (Int.natCast_nonneg _) (Int.ofNat_le.2 h2), Post.refl hs hf⟩
            · subst hk; cases hr
    · subst hk; cases hr
  · split at hk
    · rename_i tt rest x hat
      have h0 : at_[0]? = some tt := by rw [← Array.getElem?_toList, hat]; rfl
      cases hx with
      | cons hx ht => cases ht with
        | nil =>
          split at hk
          · rename_i hu
            cases hx
            refine ⟨_, h, s, hk, .int .i64 0, w, run_v ?_, e, .int _ _, Post.refl hs hf⟩
            simp [Builtin.cap_, h0, run_under hu, Result.andThen, goInt]
          · rename_i hu
            obtain ⟨bv, rfl⟩ := sl_form hx
            refine ⟨_, h, s, hk, _, w, run_v (w' := w) ?_, e, .int _ _, Post.refl hs hf⟩
            simp [Builtin.cap_, h0, run_under hu, Result.andThen, goInt]
          · subst hk; cases hr
    · subst hk; cases hr
  · split at hk
    · cases hx with
      | cons hx ht => cases ht with
        | cons hy ht => cases ht with
          | nil =>
            obtain ⟨v, z, g1, g2, g3⟩ := lext_max (P := P) (w := w) hk hr hx hy
            exact ⟨v, h, s, g1, z, w, run_v (by simpa [Builtin.max_] using g3), e, g2, Post.refl hs hf⟩
    · cases hx with
      | cons hx ht => cases ht with
        | cons hy ht => cases ht with
          | nil =>
            obtain ⟨v, z, g1, g2, g3⟩ := lext_max (P := P) (w := w) hk hr hx hy
            exact ⟨v, h, s, g1, z, w, run_v (by simpa [Builtin.max_] using g3), e, g2, Post.refl hs hf⟩
    · rename_i kd x l
      cases hx with
      | cons hx ht =>
        cases hx
        obtain ⟨v, z, g1, g2, g3⟩ := ext_max (P := P) (w := w) hk hr ht
        exact ⟨v, h, s, g1, z, w, run_v (by simpa [Builtin.max_] using g3), e, g2, Post.refl hs hf⟩
    · subst hk; cases hr
  · split at hk
    · cases hx with
      | cons hx ht => cases ht with
        | cons hy ht => cases ht with
          | nil =>
            obtain ⟨v, z, g1, g2, g3⟩ := lext_min (P := P) (w := w) hk hr hx hy
            exact ⟨v, h, s, g1, z, w, run_v (by simpa [Builtin.min_] using g3), e, g2, Post.refl hs hf⟩
    · cases hx with
      | cons hx ht => cases ht with
        | cons hy ht => cases ht with
          | nil =>
            obtain ⟨v, z, g1, g2, g3⟩ := lext_min (P := P) (w := w) hk hr hx hy
            exact ⟨v, h, s, g1, z, w, run_v (by simpa [Builtin.min_] using g3), e, g2, Post.refl hs hf⟩
    · rename_i kd x l
      cases hx with
      | cons hx ht =>
        cases hx
        obtain ⟨v, z, g1, g2, g3⟩ := ext_min (P := P) (w := w) hk hr ht
        exact ⟨v, h, s, g1, z, w, run_v (by simpa [Builtin.min_] using g3), e, g2, Post.refl hs hf⟩
    · subst hk; cases hr
  · split at hk
    · rename_i tt rest x y hat
      have h0 : at_[0]? = some tt := by rw [← Array.getElem?_toList, hat]; rfl
      cases hx with
      | cons hx ht => cases ht with
        | cons hy ht => cases ht with
          | nil =>
            split at hk
            · rename_i el hu
              split at hk
              · rename_i i hi
                obtain ⟨n, cs', ys, hk, hcs, hlen, hyl, hfc⟩ := srcCells_ok (P := P) hk hr hs hy
                obtain ⟨v, h', s', g1, z, w', g2, g3⟩ := copyTo_ok (ty := ty) (y := y) hk hr hs hf hx hcs hyl h0 hu hi rfl hlen (hfc w rfl)
                exact ⟨v, h', s', g1, z, w', run_v g2, g3⟩
              · subst hk; cases hr
            · subst hk; cases hr
    · subst hk; cases hr
  · split at hk
    · rename_i tt rest x y hat
      have h0 : at_[0]? = some tt := by rw [← Array.getElem?_toList, hat]; rfl
      cases hx with
      | cons hx ht => cases ht with
        | cons hy ht => cases ht with
          | nil =>
            split at hk
            · rename_i kt et hu
              obtain ⟨hok, hk⟩ := bif_ok hk (by simp [RO.good]) hr
              obtain ⟨d, hd, hik, hdd⟩ := keyOk_ok hok hy
              split at hk
              · rename_i b
                cases hx with
                | @map _ nn sh sz hb =>
                  split at hk
                  · rename_i es cl hbl
                    obtain ⟨hl, hsh, ms, hw, hes⟩ := map_at hs hbl hb
                    simp only at hsh hw
                    subst hsh
                    obtain ⟨es', g1, g2⟩ := delE_ok hd hy hdd 0 hk hr hes
                    rcases g2 with ⟨g3, g4⟩ | ⟨i, old, g3, g4, g5⟩
                    · exact ⟨_, _, s, g1, _, _, run_v (run_delete h0 hu hd hik hw g3), e, .tup .nil, set_post hs hf hl hb (by simp) (.map g4)⟩
                    · refine ⟨_, _, s, g1, _, _, run_v (run_delete h0 hu hd hik hw g3), e, .tup .nil, set_post hs hf hl hb (by simp) ?_⟩
                      have he : ((⟨ms⟩ : Array MapEntry).eraseIdxIfInBounds (0 + i)) = ⟨ms.eraseIdx i⟩ := by
                        apply Array.ext'
                        unfold Array.eraseIdxIfInBounds
                        rw [dif_pos (by simpa using g4)]
                        simp
                      simp only [he]
                      exact .map g5
                  · subst hk; cases hr
              · subst hk; cases hr
            · subst hk; cases hr
    · subst hk; cases hr
  · subst hk; cases hr
/-- The value does not hang on what is done with it. -/
theorem loadV_val {ty : TypeId} {b o : Nat} {f : V → RO} (hr : (loadV P ty h b o f).good) : ∃ v, ∀ g, loadV P ty h b o g = g v := by
  cases hb : h.get .gone b with
  | cells t' m =>
    have e1 : ∀ g, loadV P ty h b o g = ifAgg P ty (bif Nat.ble (Nat.add o (P.cellsOf ty)) m then g (.agg (rdCells t' (P.cellsOf ty) o)) else .err 30) (bif Nat.ble (Nat.succ o) m then g (t'.get un o) else .err 31) := fun g => by
      unfold loadV; rw [hb]
    rw [e1] at hr
    obtain ⟨d, hd, ⟨h1, h2⟩ | ⟨h1, h2⟩⟩ := ifAgg_ok rfl hr
    · have e2 : ∀ yes no : RO, ifAgg P ty yes no = yes := fun yes no => by
        unfold ifAgg; rw [hd]; cases d <;> first | rfl | cases h1
      rw [e2] at hr
      cases hc : Nat.ble (Nat.add o (P.cellsOf ty)) m with
      | false => rw [hc] at hr; cases hr
      | true => exact ⟨_, fun g => by rw [e1, e2, hc]; rfl⟩
    · have e2 : ∀ yes no : RO, ifAgg P ty yes no = no := fun yes no => by
        unfold ifAgg; rw [hd]; cases d <;> first | rfl | cases h1
      rw [e2] at hr
      cases hc : Nat.ble (Nat.succ o) m with
      | false => rw [hc] at hr; cases hr
      | true => exact ⟨_, fun g => by rw [e1, e2, hc]; rfl⟩
  | map es c => unfold loadV at hr; rw [hb] at hr; cases hr
  | iter a b c d => unfold loadV at hr; rw [hb] at hr; cases hr
  | loop a b c d => unfold loadV at hr; rw [hb] at hr; cases hr
  | gone => unfold loadV at hr; rw [hb] at hr; cases hr
theorem loadV_ok2 {ty : TypeId} {b o : Nat} {v : V} (hv : ∀ g, loadV P ty h b o g = g v) (hs : Sim e h w) {x : Loc} (hx : e b = some x) : ∃ y, VR e v y ∧ (loadVar ty ⟨x.n, x.sh + o, none⟩).run P w = .ok y w := by
  obtain ⟨v', h1, y, h2, h3⟩ := loadV_ok (P := P) (ty := ty) (b := b) (o := o) (f := fun v => .norm (.node v .nil .nil) h 0) (r := .norm (.node v .nil .nil) h 0) (hv _) trivial hs hx
  injection h1 with h1
  injection h1 with h1
  exact ⟨y, h1 ▸ h2, h3⟩
/-- The results. -/
def resOne (tm : Array Value) : ResultVar → Sem Value
  | .tmp i => pure (tm.getD i undef)
  | .cell a ty => do loadVar ty (← asAddr (tm.getD a undef))
theorem run_mapM_cons {tm : Array Value} {x : ResultVar} {l : List ResultVar} {y : Value} {ys : List Value} (h1 : (resOne tm x).run P w = .ok y w) (h2 : (l.mapM (resOne tm)).run P w = .ok ys w) : ((x :: l).mapM (resOne tm)).run P w = .ok (y :: ys) w := by
  rw [List.mapM_cons, Sem.run_bind, h1]
  simp only [Result.andThen, Sem.run_bind, h2, Sem.run_pure]
theorem resV_val : ∀ {l : List ResultVar} {f : List V → RO}, (resV P t h l f).good → ∃ vs, (∀ g, resV P t h l g = g vs) ∧ ∀ e w tm, TR e t tm → Sim e h w → ∃ xs, VRs e vs xs ∧ (l.mapM (resOne tm)).run P w = .ok xs w
  | [], f, hr => ⟨[], fun g => rfl, fun e w tm ht hs => ⟨[], .nil, rfl⟩⟩
  | .tmp i :: l, f, hr => by
    obtain ⟨vs, h1, h2⟩ := resV_val (l := l) (f := fun vs => f (t.get un i :: vs)) hr
    refine ⟨t.get un i :: vs, fun g => h1 _, fun e w tm ht hs => ?_⟩
    obtain ⟨xs, h3, h4⟩ := h2 e w tm ht hs
    exact ⟨tm.getD i undef :: xs, .cons (ht.val i) h3, run_mapM_cons rfl h4⟩
  | .cell a ty :: l, f, hr => by
    have e1 : ∀ g, resV P t h (.cell a ty :: l) g = (match t.get un a with | .ptr b o => loadV P ty h b o (fun v => resV P t h l (fun vs => g (v :: vs))) | _ => .err 121) := fun g => rfl
    rw [e1] at hr
    cases hp : t.get un a with
    | ptr b o =>
      rw [hp] at hr
      obtain ⟨v, hv⟩ := loadV_val hr
      dsimp only at hr
      rw [hv] at hr
      obtain ⟨vs, h1, h2⟩ := resV_val (l := l) (f := fun vs => f (v :: vs)) hr
      refine ⟨v :: vs, fun g => by rw [e1, hp]; dsimp only; rw [hv]; exact h1 _, fun e w tm ht hs => ?_⟩
      obtain ⟨xs, h3, h4⟩ := h2 e w tm ht hs
      have hva := ht.val a
      rw [hp] at hva
      generalize hta : tm.getD a undef = ta at hva
      cases hva with
      | ptr hb =>
        obtain ⟨y, g1, g2⟩ := loadV_ok2 hv hs hb
        simp only at g2
        refine ⟨y :: xs, .cons g1 h3, run_mapM_cons ?_ h4⟩
        simp only [resOne, Sem.run_bind, hta, asAddr, Sem.run_pure, Result.andThen, g2]
    | _ => rw [hp] at hr; cases hr
def tupX : List Value → Value
  | [x] => x
  | xs => .tuple ⟨xs⟩
theorem tup_VR {vs : List V} {xs : List Value} (hx : VRs e vs xs) : VR e (tupV vs) (tupX xs) := by
  cases hx with
  | nil => exact .tup .nil
  | cons h t => cases t with
    | nil => exact h
    | cons h2 t2 => exact .tup (.cons h (.cons h2 t2))
theorem run_results {fn : Func} {tm : Array Value} {xs : List Value} (h : (fn.results.toList.mapM (resOne tm)).run P w = .ok xs w) : (results fn tm).run P w = .ok (tupX xs) w := by
  show (do let vs ← fn.results.mapM (resOne tm); pure (if h : vs.size = 1 then vs[0] else .tuple vs) : Sem Value).run P w = _
  rw [Sem.run_bind, Array.mapM_eq_mapM_toList]
  have h2 : (List.toArray <$> fn.results.toList.mapM (resOne tm)).run P w = .ok xs.toArray w := by
    rw [← bind_pure_comp, Sem.run_bind, h]; rfl
  rw [h2]
  match xs with
  | [] => rfl
  | [x] => rfl
  | x :: y :: l => simp [Result.andThen, tupX]
end Go.Ev
