/- An evaluator of the model's code, fifteenth part: the built-in functions, and what is called. -/
import Derived.Test.YtnklmadmenkdoaaGreatEvN
set_option linter.unusedVariables false
set_option linter.unusedSimpArgs false
namespace Go.Ev
variable {D : List Deferred}
variable {P : Program} {pr : Prims} {ih : Rn} {e : Env} {t : T V} {h : H} {s : Nat} {w : World} {a : Act} {r : RO} {k : K} {o : Oper}
theorem ER.length : ∀ {l ms}, ER e l ms → l.length = ms.length
  | _, _, .nil => rfl
  | _, _, .cons _ _ t => by simp [ER.length t]
theorem lenV_ok {t : TypeId} {x : V} {f : Nat → RO} {at_ : Array TypeId} {ty : TypeId} (hk : lenV h x f = r) (hr : r.good) (hs : Sim e h w) {xv : Value} (hx : VR e x xv) (h0 : at_[0]? = some t) (hl : lenOk P t x = true) :
    ∃ n, f n = r ∧ (Builtin.len_ at_ ty #[xv]).run P w = .ok (goInt n) w := by
  unfold lenOk at hl
  split at hl
  · rename_i hu; cases hx; exact ⟨_, hk, by simp [Builtin.len_, h0, run_under hu, Result.andThen]⟩
  · rename_i hu; cases hx; exact ⟨_, hk, by simp [Builtin.len_, h0, run_under hu, Result.andThen]⟩
  · rename_i hu; cases hx <;> exact ⟨_, hk, by simp [Builtin.len_, h0, run_under hu, Result.andThen]⟩
  · rename_i hu; cases hx <;> exact ⟨_, hk, by simp [Builtin.len_, h0, run_under hu, Result.andThen]⟩
  · rename_i hu; cases hx; exact ⟨_, hk, by simp [Builtin.len_, h0, run_under hu, Result.andThen]⟩
  · rename_i hu
    cases hx with
    | map hb =>
      simp only [lenV] at hk
      split at hk
      · rename_i es c hbl
        obtain ⟨hl, _, ms, hw, hes⟩ := map_at hs hbl hb
        have hg := MapKept.run_getObj_map (P := P) hw
        exact ⟨_, hk, by simp [Builtin.len_, h0, run_under hu, Result.andThen, hg, hes.length]⟩
      · subst hk; cases hr
  · cases hl
theorem ext_max : ∀ {l : List V} {kd : IntKind} {x : Int} {f : V → RO} (hk : ext ilt kd l x f = r) (hr : r.good) {xs : List Value} (hl : VRs e l xs), ∃ v z, f v = r ∧ VR e v z ∧ (xs.foldlM Builtin.max2 (.int kd x)).run P w = .ok z w
  | [], kd, x, f, hk, hr, _, .nil => ⟨_, _, hk, .int _ _, rfl⟩
  | v :: l, kd, x, f, hk, hr, _, .cons (x := y) hv ht => by
    by_cases hint : ∃ kb b, v = .int kb b
    · obtain ⟨kb, b, rfl⟩ := hint
      cases hv
      change ext ilt kd l (bif ilt x b then b else x) f = r at hk
      obtain ⟨u, z, h1, h2, h3⟩ := ext_max hk hr ht
      refine ⟨u, z, h1, h2, ?_⟩
      have hc : (bif ilt x b then b else x) = if b > x then b else x := by rw [ilt_eq]; by_cases hxb : x < b <;> simp [hxb]
      rw [hc] at h3
      simpa [List.foldlM_cons, Builtin.max2, Result.andThen] using h3
    · cases v <;> first | exact absurd ⟨_, _, rfl⟩ hint | (change RO.err 110 = r at hk; subst hk; cases hr)
theorem ext_min : ∀ {l : List V} {kd : IntKind} {x : Int} {f : V → RO} (hk : ext (fun a b => ilt b a) kd l x f = r) (hr : r.good) {xs : List Value} (hl : VRs e l xs), ∃ v z, f v = r ∧ VR e v z ∧ (xs.foldlM Builtin.min2 (.int kd x)).run P w = .ok z w
  | [], kd, x, f, hk, hr, _, .nil => ⟨_, _, hk, .int _ _, rfl⟩
  | v :: l, kd, x, f, hk, hr, _, .cons (x := y) hv ht => by
    by_cases hint : ∃ kb b, v = .int kb b
    · obtain ⟨kb, b, rfl⟩ := hint
      cases hv
      change ext (fun a b => ilt b a) kd l (bif ilt b x then b else x) f = r at hk
      obtain ⟨u, z, h1, h2, h3⟩ := ext_min hk hr ht
      refine ⟨u, z, h1, h2, ?_⟩
      have hc : (bif ilt b x then b else x) = if b < x then b else x := by rw [ilt_eq]; by_cases hxb : b < x <;> simp [hxb]
      rw [hc] at h3
      simpa [List.foldlM_cons, Builtin.min2, Result.andThen] using h3
    · cases v <;> first | exact absurd ⟨_, _, rfl⟩ hint | (change RO.err 110 = r at hk; subst hk; cases hr)
theorem copyTo_ok {x y : V} {n z : Nat} {cs : List V} (hk : copyTo h x n cs z s k = r) (hr : r.good) (hs : Sim e h w) (hf : Free e s) {xv yv : Value} {xs : List Value} {at_ : Array TypeId} {t el ty : TypeId} {i : TypeInfo} (hx : VR e x xv)
    (hcs : VRs e cs xs) (hl : xs.length = n * z) (h0 : at_[0]? = some t) (hu : P.underlying t = some (.slice el)) (hi : P.info? el = some i) (hz : z = P.cellsOf el) (hlen : (Builtin.lenOf yv).run P w = .ok n w)
    (hfc : ∀ m, m ≤ n → (Builtin.firstCells z m yv).run P w = .ok ⟨xs.take (m * z)⟩ w) :
    ∃ v h' s', k v h' s' = r ∧ ∃ u w', (Builtin.copy_ at_ ty #[xv, yv]).run P w = .ok u w' ∧ Good e s h w v h' s' u w' := by
  subst hz
  have gen : ∀ (b : Option Addr) (l c : Nat) (w' : World), (match b with | some a => storeCells a (xs.take (min n l * P.cellsOf el)) | none => pure () : Sem Unit).run P w = .ok () w' → (Builtin.copy_ at_ ty #[.slice b l c, yv]).run P w = .ok (.int .i64 (min n l : Nat)) w' := by
    intro b l c w' hw'
    have hm := hfc (min n l) (Nat.min_le_left _ _)
    cases b with
    | none =>
      have : w' = w := by simp only [Sem.run_pure] at hw'; injection hw' with _ h2; exact h2.symm
      subst this
      simp [Builtin.copy_, h0, run_under hu, Result.andThen, hlen, run_sizeOf' hi, hm, goInt]
    | some b =>
      simp only at hw'
      simp [Builtin.copy_, h0, run_under hu, Result.andThen, hlen, run_sizeOf' hi, hm, hw', goInt]
  unfold copyTo at hk
  split at hk
  · cases hx
    refine ⟨_, h, s, hk, _, w, gen none 0 0 w rfl, e, ?_, Post.refl hs hf⟩
    rw [Nat.min_zero]; exact .int _ _
  · rename_i b off l c
    rw [imin_eq] at hk
    cases hz : Nat.beq (min n l) 0 with
    | true =>
      rw [hz] at hk
      have hz := Nat.eq_of_beq_eq_true hz
      obtain ⟨bv, cv, rfl⟩ : ∃ bv cv, xv = .slice bv l cv := by cases hx <;> exact ⟨_, _, rfl⟩
      refine ⟨_, h, s, hk, _, w, gen bv l cv w (by rw [hz]; cases bv <;> simp [storeCells]), e, ?_, Post.refl hs hf⟩
      rw [hz]; exact .int _ _
    | false =>
      rw [hz] at hk
      have hz := Nat.ne_of_beq_eq_false hz
      simp only [cond_false] at hk
      have hk' := hk
      cases hx with
      | @sl _ _ _ _ nb sh sz hb hlc =>
        obtain ⟨h', w', k1, k2, k3⟩ := storeV_ok (P := P) hk' hr hs hf hb (hcs.take _)
        exact ⟨_, h', s, k1, _, w', gen (some ⟨nb, sh + off, none⟩) l c w' k2, e, .int _ _, k3⟩
      | sl0 hb => simp at hz
  · rename_i b off l z0
    rw [imin_eq] at hk
    cases hz : Nat.beq (min n l) 0 with
    | true =>
      rw [hz] at hk
      have hz := Nat.eq_of_beq_eq_true hz
      obtain ⟨bv, cv, rfl⟩ : ∃ bv cv, xv = .slice bv l cv := by cases hx <;> exact ⟨_, _, rfl⟩
      refine ⟨_, h, s, hk, _, w, gen bv l cv w (by rw [hz]; cases bv <;> simp [storeCells]), e, ?_, Post.refl hs hf⟩
      rw [hz]; exact .int _ _
    | false =>
      rw [hz] at hk
      have hz := Nat.ne_of_beq_eq_false hz
      simp only [cond_false] at hk
      have hk' := hk
      cases hx with
      | @slu _ _ _ _ c nb sh sz hb hlc hcz =>
        obtain ⟨h', w', k1, k2, k3⟩ := storeV_ok (P := P) hk' hr hs hf hb (hcs.take _)
        exact ⟨_, h', s, k1, _, w', gen (some ⟨nb, sh + off, none⟩) l c w' k2, e, .int _ _, k3⟩
      | slu0 hb hx0 => simp at hz
  · subst hk; cases hr
end Go.Ev
