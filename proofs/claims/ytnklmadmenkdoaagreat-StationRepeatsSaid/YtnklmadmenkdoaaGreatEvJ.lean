/- An evaluator of the model's code, tenth part: the laws of maps. -/
import Derived.Test.YtnklmadmenkdoaaGreatEvI
import Derived.MapKept
set_option linter.unusedVariables false
set_option linter.unusedSimpArgs false
namespace Go.Ev
variable {D : List Deferred}
variable {P : Program} {pr : Prims} {ih : Rn} {e : Env} {t : T V} {h : H} {s : Nat} {w : World} {a : Act} {r : RO} {k : K} {o : Oper}
/-- A map, as it lies. -/
theorem map_at (hs : Sim e h w) {b : Nat} {es : List (V × V × Nat)} {c : Nat} (hb : h.get .gone b = .map es c) {x : Loc} (hx : e b = some x) :
    live h b ∧ x.sh = 0 ∧ ∃ ms, w.heap[x.n]? = some (.map ⟨ms⟩ c) ∧ ER e es ms := by
  have hl : live h b := live_of_cells hb (by simp)
  obtain ⟨x', o', h1, h2, h3⟩ := hs.blk b hl
  rw [hx] at h1; injection h1 with h1; subst h1
  rw [hb] at h3
  cases h3 with
  | map g => exact ⟨hl, rfl, _, h2, g⟩
theorem sameBits_self : ∀ {fs : List Field} {i : Nat} {a : List V} {r : Bool} {xs : List Value}, sEq P fs i a a = some r → VRs e a xs → ((xs.zip xs).all fun (x, y) => Instr.sameBits 9999 x y) = true
  | _, _, [], _, _, _, .nil => rfl
  | [], _, _ :: _, _, _, h, _ => by simp [sEq] at h
  | f :: fs, i, x :: a, r, _, h, .cons (x := xv) (xs := xs) hx ha => by
    unfold sEq at h
    cases hc : (f.name == "_" || !(Nat.beq f.offset i)) with
    | true => rw [hc] at h; cases h
    | false =>
      rw [hc] at h
      simp only [cond_false] at h
      split at h
      · cases hx
        cases hs : sEq P fs (Nat.succ i) a a with
        | none => simp [hs] at h
        | some r' => have := sameBits_self hs ha; simp [Instr.sameBits, this]
      · cases hx
        cases hs : sEq P fs (Nat.succ i) a a with
        | none => simp [hs] at h
        | some r' => have := sameBits_self hs ha; simp [Instr.sameBits, ba_refl, this]
      · cases h
theorem chk_ok (em : Bool) (n : Nat) : ∀ {fs : List Field} {i : Nat} {a : List V} {r : Bool} {p xs : List Value} {w : World}, sEq P fs i a a = some r → VRs e a xs → p.length = i →
    (forIn fs PUnit.unit fun f _ => (if f.name ≠ "_" then ((part f.type ⟨p ++ xs⟩ f.offset) >>= fun v => (Instr.checkKey em (n + 1) f.type v) >>= fun _ => pure (ForInStep.yield PUnit.unit)) else pure (ForInStep.yield PUnit.unit) : Sem (ForInStep PUnit))).run P w = .ok PUnit.unit w
  | [], _, _, _, _, _, w, _, _, _ => by simp
  | _ :: _, _, [], _, _, _, w, h, _, _ => by simp [sEq] at h
  | f :: fs, i, x :: a, r, p, _, w, h, .cons (x := xv) (xs := xs) hx ha, hp => by
    unfold sEq at h
    cases hc : (f.name == "_" || !(Nat.beq f.offset i)) with
    | true => rw [hc] at h; cases h
    | false =>
      rw [hc] at h
      simp only [cond_false] at h
      simp only [Bool.or_eq_false_iff, Bool.not_eq_false'] at hc
      obtain ⟨hn, ho⟩ := hc
      have ho' : f.offset = i := Nat.eq_of_beq_eq_true ho
      have hn' : f.name ≠ "_" := by simpa using hn
      have fin : ∀ (r' : Bool), sEq P fs (Nat.succ i) a a = some r' → (part f.type ⟨p ++ xv :: xs⟩ f.offset).run P w = .ok xv w → (Instr.checkKey em (n + 1) f.type xv).run P w = .ok () w → (forIn (f :: fs) PUnit.unit fun f _ => (if f.name ≠ "_" then ((part f.type ⟨p ++ xv :: xs⟩ f.offset) >>= fun v => (Instr.checkKey em (n + 1) f.type v) >>= fun _ => pure (ForInStep.yield PUnit.unit)) else pure (ForInStep.yield PUnit.unit) : Sem (ForInStep PUnit))).run P w = .ok PUnit.unit w := by
        intro r' h1 h2 h3
        have g1 := chk_ok em n (p := p ++ [xv]) (w := w) h1 ha (by simp [hp])
        simp only [List.append_assoc, List.cons_append, List.nil_append] at g1
        simp only [List.forIn_cons, Sem.run_bind, if_pos hn', h2, h3, Result.andThen, Sem.run_pure]
        exact g1
      split at h
      · rename_i hu _
        cases hx
        cases hs : sEq P fs (Nat.succ i) a a with
        | none => simp [hs] at h
        | some r' => exact fin r' hs (by rw [ho', ← hp]; exact run_part1 hu (by simp) (by simp) _ _ _) (by unfold Instr.checkKey; simp only [Sem.run_bind, run_under hu, Result.andThen]; rfl)
      · rename_i hu _
        cases hx
        cases hs : sEq P fs (Nat.succ i) a a with
        | none => simp [hs] at h
        | some r' => exact fin r' hs (by rw [ho', ← hp]; exact run_part1 hu (by simp) (by simp) _ _ _) (by unfold Instr.checkKey; simp only [Sem.run_bind, run_under hu, Result.andThen]; rfl)
      · cases h
def KEq (P : Program) (kt : TypeId) (d : TypeDesc) (x p : Value) (b : Bool) : Prop := match d with | .struct _ => ∀ w, (Op.equal kt x p).run P w = .ok b w | _ => Instr.sameNow d x p = some b
def KFind (P : Program) (kt : TypeId) (d : TypeDesc) (x : Value) (ms : List MapEntry) (i : Nat) (res : Option (Nat × Value)) : Prop := match d with | .struct _ => ∀ w, (Instr.findAsking kt x ms i).run P w = .ok res w | _ => Instr.findNow d x ms i = some res
def KOk (P : Program) (kt : TypeId) (d : TypeDesc) (x : V) : Prop := (∃ kd n k', x = .int kd n ∧ d = .int k') ∨ (∃ b, x = .str b ∧ d = .string) ∨ (∃ l fs, x = .agg l ∧ d = .struct fs ∧ sEq P fs.toList 0 l l = some true ∧ P.stoodInHeld kt = false)
theorem KFind.nil {kt : TypeId} {d : TypeDesc} {x : Value} {i : Nat} : KFind P kt d x [] i none := by
  unfold KFind; split
  · intro w; simp [Instr.findAsking]
  · rfl
theorem KFind.hit {kt : TypeId} {d : TypeDesc} {x : Value} {i : Nat} {en : MapEntry} {ms : List MapEntry} (h : KEq P kt d x en.key true) : KFind P kt d x (en :: ms) i (some (i, en.val)) := by
  unfold KEq at h; unfold KFind
  cases d <;> first | (simp only [Instr.findNow, h]; done) | (intro w; simp [Instr.findAsking, h, Result.andThen])
theorem KFind.miss {kt : TypeId} {d : TypeDesc} {x : Value} {i : Nat} {en : MapEntry} {ms : List MapEntry} {res : Option (Nat × Value)} (h : KEq P kt d x en.key false) (ht : KFind P kt d x ms (i + 1) res) : KFind P kt d x (en :: ms) i res := by
  unfold KEq at h; unfold KFind at ht ⊢
  cases d <;> first | (simp only [Instr.findNow, h]; exact ht) | (intro w; simp [Instr.findAsking, h, Result.andThen]; exact ht w)
theorem KFind.run {kt : TypeId} {d : TypeDesc} {x : Value} {ms : List MapEntry} {res : Option (Nat × Value)} (hd : P.underlying kt = some d) (h : KFind P kt d x ms 0 res) : (Instr.findKey kt x ms).run P w = .ok res w := by
  unfold KFind at h
  cases d
  case struct fs =>
    cases ms with
    | nil => have := h w; simp [Instr.findAsking] at this; subst this; simp [Instr.findKey, run_under hd, Result.andThen, Instr.findNow]
    | cons m ms => simp [Instr.findKey, run_under hd, Result.andThen, Instr.findNow, Instr.sameNow]; exact h w
  all_goals exact MapKept.run_findKey hd h
theorem keyOk_ok {kt : TypeId} {x : V} (h : keyOk P kt x = true) {xv : Value} (hx : VR e x xv) : ∃ d, P.underlying kt = some d ∧ (∀ b w, (Instr.checkKey b 10000 kt xv).run P w = .ok () w) ∧ KOk P kt d x := by
  unfold keyOk at h
  split at h
  · rename_i kk kd n hu
    cases hx
    exact ⟨_, hu, fun b w => MapKept.run_checkKey hu (by simp [MapKept.IsKey, keq_eq h]) b 9999, .inl ⟨_, _, _, rfl, rfl⟩⟩
  · rename_i b hu
    cases hx
    exact ⟨_, hu, fun b w => MapKept.run_checkKey hu (by simp [MapKept.IsKey]) b 9999, .inr (.inl ⟨_, rfl, rfl⟩)⟩
  · rename_i fs l hu
    cases hx with
    | agg hl =>
      cases hst : P.stoodInHeld kt with
      | true => rw [hst] at h; cases h
      | false =>
        rw [hst] at h
        simp only [cond_false] at h
        split at h
        · rename_i bb hs
          subst h
          exact ⟨_, hu, fun b w => by
            have g := chk_ok (w := w) b 9998 (p := []) hs hl rfl
            simp only [List.nil_append] at g
            unfold Instr.checkKey
            simp only [Sem.run_bind, run_under hu, Result.andThen]
            rw [← Array.forIn_toList]
            simp at g ⊢
            rw [g], .inr (.inr ⟨_, _, rfl, rfl, hs, hst⟩)⟩
        · cases h
  · cases h
theorem keyEq_ok {kt : TypeId} {x p : V} {xv pv : Value} {d : TypeDesc} {b : Bool} (hu : P.underlying kt = some d) (hk : keyEq P kt x p = some b) (hx : VR e x xv) (hp : VR e p pv) (hd : KOk P kt d x) :
    KEq P kt d xv pv b ∧ (b = true → pv = xv) := by
  rcases hd with ⟨kd, n, k', rfl, rfl⟩ | ⟨s, rfl, rfl⟩ | ⟨l, fs, rfl, rfl, hs, hst⟩
  · unfold keyEq at hk
    split at hk
    · rename_i k1 a k2 b' heq
      injection heq with e1 e2
      subst e1 e2
      cases hx; cases hp
      cases hkk : keq kd k2 with
      | false => rw [hkk] at hk; cases hk
      | true =>
        rw [hkk] at hk
        have := keq_eq hkk
        subst this
        simp only [cond_true] at hk
        injection hk with hk
        rw [ieq_eq] at hk
        refine ⟨by simp [KEq, Instr.sameNow, hk], fun hb => ?_⟩
        subst hb
        have : n = b' := by simpa using hk
        rw [this]
    · rename_i heq; cases heq
    · rename_i heq; cases heq
    · cases hk
  · unfold keyEq at hk
    split at hk
    · rename_i heq; cases heq
    · rename_i a b' heq
      injection heq with e1
      subst e1
      cases hx; cases hp
      injection hk with hk
      refine ⟨by simp [KEq, Instr.sameNow, hk], fun hb => ?_⟩
      subst hb
      rw [ba_eq hk]
    · rename_i heq; cases heq
    · cases hk
  · unfold keyEq at hk
    split at hk
    · rename_i heq; cases heq
    · rename_i heq; cases heq
    · rename_i a b' heq
      injection heq with e1
      subst e1
      cases hx with
      | agg hl => cases hp with
        | agg hp =>
          rw [hu] at hk
          simp only at hk
          have hfs : P.fieldsOf kt = fs := by simp [Program.fieldsOf, hu]
          refine ⟨fun w => ?_, fun hb => ?_⟩
          · obtain ⟨g1, _⟩ := sEq_ok (w := w) 9998 (p := []) (q := []) hk hl hp rfl rfl
            simp only [List.nil_append] at g1
            show (Op.equalIn 10000 kt _ _).run P w = _
            rw [show 10000 = 9999 + 1 from rfl, run_equalIn_struct w 9999 kt _ _ (by rw [hfs]; exact hu) hst, hfs]
            exact g1
          · obtain ⟨_, g2⟩ := sEq_ok (w := default) 9998 (p := []) (q := []) hk hl hp rfl rfl
            rw [g2 hb]
    · cases hk
theorem findE_ok {kt : TypeId} {x : V} {xv : Value} {d : TypeDesc} (hu : P.underlying kt = some d) (hx : VR e x xv) (hd : KOk P kt d x) : ∀ {l : List (V × V × Nat)} {ms : List MapEntry} {f : Option V → RO} (i : Nat),
    findE P kt x l f = r → r.good → ER e l ms → ∃ res, f res = r ∧ ((res = none ∧ KFind P kt d xv ms i none) ∨ ∃ v y n, res = some v ∧ VR e v y ∧ KFind P kt d xv ms i (some (n, y)))
  | [], _, f, i, hk, hr, .nil => ⟨none, hk, .inl ⟨rfl, .nil⟩⟩
  | (pk, pv, pn) :: l, _, f, i, hk, hr, .cons (x := pkv) (y := pvv) hkk hv ht => by
    change (match keyEq P kt x pk with | some true => f (some pv) | some false => findE P kt x l f | none => .err 79) = r at hk
    split at hk
    · rename_i heq
      obtain ⟨g1, g2⟩ := keyEq_ok hu heq hx hkk hd
      exact ⟨_, hk, .inr ⟨pv, pvv, i, rfl, hv, .hit g1⟩⟩
    · rename_i heq
      obtain ⟨g1, g2⟩ := keyEq_ok hu heq hx hkk hd
      obtain ⟨res, h1, h2⟩ := findE_ok hu hx hd (i + 1) hk hr ht
      refine ⟨res, h1, ?_⟩
      rcases h2 with ⟨h2, h3⟩ | ⟨v, y, n, h2, h3, h4⟩
      · exact .inl ⟨h2, .miss g1 h3⟩
      · exact .inr ⟨v, y, n, h2, h3, .miss g1 h4⟩
    · subst hk; cases hr
def lookRes (res : Option (Nat × Value)) (c : Bool) (zv : Value) : Value := match res, c with | some (_, y), true => .tuple #[y, .bool true] | some (_, y), false => y | none, true => .tuple #[zv, .bool false] | none, false => zv
theorem run_lookup {ty kt et : TypeId} {d : TypeDesc} {m : Value} {ms : List MapEntry} {xv zv : Value} {c : Bool} {res : Option (Nat × Value)} (hu : P.underlying ty = some (.map kt et)) (hd : P.underlying kt = some d) (hik : ∀ b w, (Instr.checkKey b 10000 kt xv).run P w = .ok () w)
    (hm : (m = .map none ∧ ms = []) ∨ ∃ n cl, m = .map (some n) ∧ w.heap[n]? = some (.map ⟨ms⟩ cl)) (hf : KFind P kt d xv ms 0 res) (hz : res = none → ∀ w, (zeroValue et).run P w = .ok zv w) :
    (Instr.lookup ty m xv c).run P w = .ok (lookRes res c zv) w := by
  have hck : ∀ b, (Instr.checkKey b 10000 kt xv).run P w = .ok () w := fun b => hik b w
  have hfk := hf.run (w := w) hd
  rcases hm with ⟨rfl, rfl⟩ | ⟨n, cl, rfl, hw⟩
  · simp only [Instr.lookup, Sem.run_bind, run_under hu, Result.andThen, Sem.run_pure, hck]
    rw [hfk]
    cases res with
    | none => simp only [Result.andThen, Sem.run_bind, hz rfl, Sem.run_pure]; cases c <;> rfl
    | some p => obtain ⟨i, y⟩ := p; simp only [Result.andThen, Sem.run_pure]; cases c <;> rfl
  · have hg : (getObj n).run P w = .ok (.map ⟨ms⟩ cl) w := MapKept.run_getObj_map hw
    simp only [Instr.lookup, Sem.run_bind, run_under hu, Result.andThen, hg, Sem.run_pure, hck, hfk]
    cases res with
    | none => simp only [Result.andThen, Sem.run_bind, hz rfl, Sem.run_pure]; cases c <;> rfl
    | some p => obtain ⟨i, y⟩ := p; simp only [Result.andThen, Sem.run_pure]; cases c <;> rfl
end Go.Ev
