/- An evaluator of the model's code, tenth part: the laws of maps. -/
import Derived.Test.YtafoihbkhgnecaaGreatEvI
import Derived.MapKept
set_option linter.unusedVariables false
set_option linter.unusedSimpArgs false
namespace Go.Ev
variable {D : List Deferred}
variable {P : Program} {pr : Prims} {ih : Rn} {e : Env} {t : T V} {h : H} {s : Nat} {w : World} {a : Act} {r : RO} {k : K} {o : Oper}
/-- A map, as it lies. -/
theorem map_at (hs : Sim e h w) {b : Nat} {es : List (V × V × Nat)} {c : Nat} (hb : h.get .gone b = .map es c) {x : Loc} (hx : e b = some x) :
    live h b ∧ x.sh = 0 ∧ ∃ ms, w.heap[x.n]? = some (.map ⟨ms⟩ c) ∧ ER e es ms := by
  have hl : live h b := live_of_cells hb (by simp)
  obtain ⟨x', o', h1, h2, h3⟩ := hs.blk b hl
  rw [hx] at h1; injection h1 with h1; subst h1
  rw [hb] at h3
  cases h3 with
  | map g => exact ⟨hl, rfl, _, h2, g⟩
theorem keyOk_ok {kt : TypeId} {x : V} (h : keyOk P kt x = true) {xv : Value} (hx : VR e x xv) : ∃ d, P.underlying kt = some d ∧ MapKept.IsKey d xv ∧ ((∃ kd n k', x = .int kd n ∧ d = .int k') ∨ (∃ b, x = .str b ∧ d = .string)) := by
  unfold keyOk at h
  split at h
  · rename_i kk kd n hu
    cases hx
    exact ⟨_, hu, by simp [MapKept.IsKey, keq_eq h], .inl ⟨_, _, _, rfl, rfl⟩⟩
  · rename_i b hu
    cases hx
    exact ⟨_, hu, by simp [MapKept.IsKey], .inr ⟨_, rfl, rfl⟩⟩
  · cases h
theorem ba_beq (a b : ByteArray) : (a == b) = (a.data == b.data) := by
  cases a; cases b; first | rfl | (show ByteArray.beq _ _ = _; unfold ByteArray.beq; rfl)
theorem ba_eq {a b : ByteArray} (h : (a == b) = true) : a = b := by
  rw [ba_beq] at h
  have := eq_of_beq h
  cases a; cases b; simp_all
theorem ba_refl (a : ByteArray) : (a == a) = true := by rw [ba_beq]; simp
theorem keyEq_ok {x p : V} {xv pv : Value} {d : TypeDesc} {b : Bool} (hk : keyEq x p = some b) (hx : VR e x xv) (hp : VR e p pv) (hd : (∃ kd n k', x = .int kd n ∧ d = .int k') ∨ (∃ b, x = .str b ∧ d = .string)) :
    Instr.sameNow d xv pv = some b ∧ (b = true → pv = xv) ∧ Instr.sameBits 10000 xv xv = true := by
  rcases hd with ⟨kd, n, k', rfl, rfl⟩ | ⟨s, rfl, rfl⟩
  · unfold keyEq at hk
    split at hk
    · rename_i k1 a k2 b' heq
      injection heq with e1 e2
      subst e1 e2
      cases hx; cases hp
      cases hkk : keq kd k2 with
      | false => rw [hkk] at hk; cases hk
      | true =>
        rw [hkk] at hk
        have := keq_eq hkk
        subst this
        simp only [cond_true] at hk
        injection hk with hk
        rw [ieq_eq] at hk
        refine ⟨by simp [Instr.sameNow, hk], fun hb => ?_, by simp [Instr.sameBits]⟩
        subst hb
        have : n = b' := by simpa using hk
        rw [this]
    · rename_i heq; cases heq
    · cases hk
  · unfold keyEq at hk
    split at hk
    · rename_i heq; cases heq
    · rename_i a b' heq
      injection heq with e1
      subst e1
      cases hx; cases hp
      injection hk with hk
      refine ⟨by simp [Instr.sameNow, hk], fun hb => ?_, by simp [Instr.sameBits, ba_refl]⟩
      subst hb
      rw [ba_eq hk]
    · cases hk
theorem findE_ok {x : V} {xv : Value} {d : TypeDesc} (hx : VR e x xv) (hd : (∃ kd n k', x = .int kd n ∧ d = .int k') ∨ (∃ b, x = .str b ∧ d = .string)) : ∀ {l : List (V × V × Nat)} {ms : List MapEntry} {f : Option V → RO} (i : Nat),
    findE x l f = r → r.good → ER e l ms → ∃ res, f res = r ∧ ((res = none ∧ Instr.findNow d xv ms i = some none) ∨ ∃ v y n, res = some v ∧ VR e v y ∧ Instr.findNow d xv ms i = some (some (n, y)))
  | [], _, f, i, hk, hr, .nil => ⟨none, hk, .inl ⟨rfl, rfl⟩⟩
  | (pk, pv, pn) :: l, _, f, i, hk, hr, .cons (x := pkv) (y := pvv) hkk hv ht => by
    change (match keyEq x pk with | some true => f (some pv) | some false => findE x l f | none => .err 79) = r at hk
    split at hk
    · rename_i heq
      obtain ⟨g1, g2, _⟩ := keyEq_ok heq hx hkk hd
      exact ⟨_, hk, .inr ⟨pv, pvv, i, rfl, hv, by simp [Instr.findNow, g1]⟩⟩
    · rename_i heq
      obtain ⟨g1, g2, _⟩ := keyEq_ok heq hx hkk hd
      obtain ⟨res, h1, h2⟩ := findE_ok hx hd (i + 1) hk hr ht
      refine ⟨res, h1, ?_⟩
      rcases h2 with ⟨h2, h3⟩ | ⟨v, y, n, h2, h3, h4⟩
      · exact .inl ⟨h2, by simp [Instr.findNow, g1, h3]⟩
      · exact .inr ⟨v, y, n, h2, h3, by simp [Instr.findNow, g1, h4]⟩
    · subst hk; cases hr
def lookRes (res : Option (Nat × Value)) (c : Bool) (zv : Value) : Value := match res, c with | some (_, y), true => .tuple #[y, .bool true] | some (_, y), false => y | none, true => .tuple #[zv, .bool false] | none, false => zv
theorem run_lookup {ty kt et : TypeId} {d : TypeDesc} {m : Value} {ms : List MapEntry} {xv zv : Value} {c : Bool} {res : Option (Nat × Value)} (hu : P.underlying ty = some (.map kt et)) (hd : P.underlying kt = some d) (hik : MapKept.IsKey d xv)
    (hm : (m = .map none ∧ ms = []) ∨ ∃ n cl, m = .map (some n) ∧ w.heap[n]? = some (.map ⟨ms⟩ cl)) (hf : Instr.findNow d xv ms 0 = some res) (hz : res = none → ∀ w, (zeroValue et).run P w = .ok zv w) :
    (Instr.lookup ty m xv c).run P w = .ok (lookRes res c zv) w := by
  have hck : ∀ b, (Instr.checkKey b 10000 kt xv).run P w = .ok () w := fun b => MapKept.run_checkKey hd hik b 9999
  have hfk := MapKept.run_findKey (P := P) (w := w) hd hf
  rcases hm with ⟨rfl, rfl⟩ | ⟨n, cl, rfl, hw⟩
  · simp only [Instr.lookup, Sem.run_bind, run_under hu, Result.andThen, Sem.run_pure, hck]
    rw [hfk]
    cases res with
    | none => simp only [Result.andThen, Sem.run_bind, hz rfl, Sem.run_pure]; cases c <;> rfl
    | some p => obtain ⟨i, y⟩ := p; simp only [Result.andThen, Sem.run_pure]; cases c <;> rfl
  · have hg : (getObj n).run P w = .ok (.map ⟨ms⟩ cl) w := MapKept.run_getObj_map hw
    simp only [Instr.lookup, Sem.run_bind, run_under hu, Result.andThen, hg, Sem.run_pure, hck, hfk]
    cases res with
    | none => simp only [Result.andThen, Sem.run_bind, hz rfl, Sem.run_pure]; cases c <;> rfl
    | some p => obtain ⟨i, y⟩ := p; simp only [Result.andThen, Sem.run_pure]; cases c <;> rfl
end Go.Ev
