/- An evaluator of the model's code, tenth part: the laws of maps. An evaluator of the model's code, eleventh part: the operations upon maps. An evaluator of the model's code, twelfth part: the steps of an iteration, the built-in functions. -/
import Derived.Test.YtnklmadmenkdoaaGreatQEvI
import Derived.MapKept
set_option linter.unusedVariables false
set_option linter.unusedSimpArgs false
namespace Go.Ev
variable {D : List Deferred}
variable {P : Program} {pr : Prims} {ih : Rn} {e : Env} {t : T V} {h : H} {s : Nat} {w : World} {a : Act} {r : RO} {k : K} {o : Oper}
/-- A map, as it lies. -/
theorem map_at (hs : Sim e h w) {b : Nat} {es : List (V × V × Nat)} {c : Nat} (hb : h.get .gone b = .map es c) {x : Loc} (hx : e b = some x) :
    live h b ∧ x.sh = 0 ∧ ∃ ms, w.heap[x.n]? = some (.map ⟨ms⟩ c) ∧ ER e es ms := by
  have hl : live h b := live_of_cells hb (by simp)
  obtain ⟨x', o', h1, h2, h3⟩ := hs.blk b hl
  rw [hx] at h1; injection h1 with h1; subst h1
  rw [hb] at h3
  cases h3 with
  | map g => exact ⟨hl, rfl, _, h2, g⟩
theorem sameBits_self : ∀ {fs : List Field} {i : Nat} {a : List V} {r : Bool} {xs : List Value}, sEq P fs i a a = some r → VRs e a xs → ((xs.zip xs).all fun (x, y) => Instr.sameBits 9999 x y) = true
  | _, _, [], _, _, _, .nil => rfl
  | [], _, _ :: _, _, _, h, _ => by simp [sEq] at h
  | f :: fs, i, x :: a, r, _, h, .cons (x := xv) (xs := xs) hx ha => by
    unfold sEq at h
    cases hc : (f.name == "_" || !(Nat.beq f.offset i)) with
    | true => rw [hc] at h; cases h
    | false =>
      rw [hc] at h
      simp only [cond_false] at h
      split at h
      · cases hx
        cases hs : sEq P fs (Nat.succ i) a a with
        | none => simp [hs] at h
        | some r' => have := sameBits_self hs ha; simp [Instr.sameBits, this]
      · cases hx
        cases hs : sEq P fs (Nat.succ i) a a with
        | none => simp [hs] at h
        | some r' => have := sameBits_self hs ha; simp [Instr.sameBits, ba_refl, this]
      · cases h
theorem chk_ok (em : Bool) (n : Nat) : ∀ {fs : List Field} {i : Nat} {a : List V} {r : Bool} {p xs : List Value} {w : World}, sEq P fs i a a = some r → VRs e a xs → p.length = i →
    (forIn fs PUnit.unit fun f _ => (if f.name ≠ "_" then ((part f.type ⟨p ++ xs⟩ f.offset) >>= fun v => (Instr.checkKey em (n + 1) f.type v) >>= fun _ => pure (ForInStep.yield PUnit.unit)) else pure (ForInStep.yield PUnit.unit) : Sem (ForInStep PUnit))).run P w = .ok PUnit.unit w
  | [], _, _, _, _, _, w, _, _, _ => by simp
  | _ :: _, _, [], _, _, _, w, h, _, _ => by simp [sEq] at h
  | f :: fs, i, x :: a, r, p, _, w, h, .cons (x := xv) (xs := xs) hx ha, hp => by
    unfold sEq at h
    cases hc : (f.name == "_" || !(Nat.beq f.offset i)) with
    | true => rw [hc] at h; cases h
    | false =>
      rw [hc] at h
      simp only [cond_false] at h
      simp only [Bool.or_eq_false_iff, Bool.not_eq_false'] at hc
      obtain ⟨hn, ho⟩ := hc
      have ho' : f.offset = i := Nat.eq_of_beq_eq_true ho
      have hn' : f.name ≠ "_" := by simpa using hn
      have fin : ∀ (r' : Bool), sEq P fs (Nat.succ i) a a = some r' → (part f.type ⟨p ++ xv :: xs⟩ f.offset).run P w = .ok xv w → (Instr.checkKey em (n + 1) f.type xv).run P w = .ok () w → (forIn (f :: fs) PUnit.unit fun f _ => (if f.name ≠ "_" then ((part f.type ⟨p ++ xv :: xs⟩ f.offset) >>= fun v => (Instr.checkKey em (n + 1) f.type v) >>= fun _ => pure (ForInStep.yield PUnit.unit)) else pure (ForInStep.yield PUnit.unit) : Sem (ForInStep PUnit))).run P w = .ok PUnit.unit w := by
        intro r' h1 h2 h3
        have g1 := chk_ok em n (p := p ++ [xv]) (w := w) h1 ha (by simp [hp])
        simp only [List.append_assoc, List.cons_append, List.nil_append] at g1
        simp only [List.forIn_cons, Sem.run_bind, if_pos hn', h2, h3, Result.andThen, Sem.run_pure]
        exact g1
      split at h
      · rename_i hu _
        cases hx
        cases hs : sEq P fs (Nat.succ i) a a with
        | none => simp [hs] at h
        | some r' => exact fin r' hs (by rw [ho', ← hp]; exact run_part1 hu (by simp) (by simp) _ _ _) (by unfold Instr.checkKey; simp only [Sem.run_bind, run_under hu, Result.andThen]; rfl)
      · rename_i hu _
        cases hx
        cases hs : sEq P fs (Nat.succ i) a a with
        | none => simp [hs] at h
        | some r' => exact fin r' hs (by rw [ho', ← hp]; exact run_part1 hu (by simp) (by simp) _ _ _) (by unfold Instr.checkKey; simp only [Sem.run_bind, run_under hu, Result.andThen]; rfl)
      · cases h
def KEq (P : Program) (kt : TypeId) (d : TypeDesc) (x p : Value) (b : Bool) : Prop := match d with | .struct _ => ∀ w, (Op.equal kt x p).run P w = .ok b w | _ => Instr.sameNow d x p = some b
def KFind (P : Program) (kt : TypeId) (d : TypeDesc) (x : Value) (ms : List MapEntry) (i : Nat) (res : Option (Nat × Value)) : Prop := match d with | .struct _ => ∀ w, (Instr.findAsking kt x ms i).run P w = .ok res w | _ => Instr.findNow d x ms i = some res
def KOk (P : Program) (kt : TypeId) (d : TypeDesc) (x : V) : Prop := (∃ kd n k', x = .int kd n ∧ d = .int k') ∨ (∃ b, x = .str b ∧ d = .string) ∨ (∃ l fs, x = .agg l ∧ d = .struct fs ∧ sEq P fs.toList 0 l l = some true ∧ P.stoodInHeld kt = false)
theorem KFind.nil {kt : TypeId} {d : TypeDesc} {x : Value} {i : Nat} : KFind P kt d x [] i none := by
  unfold KFind; split
  · intro w; simp [Instr.findAsking]
  · rfl
theorem KFind.hit {kt : TypeId} {d : TypeDesc} {x : Value} {i : Nat} {en : MapEntry} {ms : List MapEntry} (h : KEq P kt d x en.key true) : KFind P kt d x (en :: ms) i (some (i, en.val)) := by
  unfold KEq at h; unfold KFind
  cases d <;> first | (simp only [Instr.findNow, h]; done) | (intro w; simp [Instr.findAsking, h, Result.andThen])
theorem KFind.miss {kt : TypeId} {d : TypeDesc} {x : Value} {i : Nat} {en : MapEntry} {ms : List MapEntry} {res : Option (Nat × Value)} (h : KEq P kt d x en.key false) (ht : KFind P kt d x ms (i + 1) res) : KFind P kt d x (en :: ms) i res := by
  unfold KEq at h; unfold KFind at ht ⊢
  cases d <;> first | (simp only [Instr.findNow, h]; exact ht) | (intro w; simp [Instr.findAsking, h, Result.andThen]; exact ht w)
theorem KFind.run {kt : TypeId} {d : TypeDesc} {x : Value} {ms : List MapEntry} {res : Option (Nat × Value)} (hd : P.underlying kt = some d) (h : KFind P kt d x ms 0 res) : (Instr.findKey kt x ms).run P w = .ok res w := by
  unfold KFind at h
  cases d
  case struct fs =>
    cases ms with
    | nil => have := h w; simp [Instr.findAsking] at this; subst this; simp [Instr.findKey, run_under hd, Result.andThen, Instr.findNow]
    | cons m ms => simp [Instr.findKey, run_under hd, Result.andThen, Instr.findNow, Instr.sameNow]; exact h w
  all_goals exact MapKept.run_findKey hd h
theorem keyOk_ok {kt : TypeId} {x : V} (h : keyOk P kt x = true) {xv : Value} (hx : VR e x xv) : ∃ d, P.underlying kt = some d ∧ (∀ b w, (Instr.checkKey b 10000 kt xv).run P w = .ok () w) ∧ KOk P kt d x := by
  unfold keyOk at h
  split at h
  · rename_i kk kd n hu
    cases hx
    exact ⟨_, hu, fun b w => MapKept.run_checkKey hu (by simp [MapKept.IsKey, keq_eq h]) b 9999, .inl ⟨_, _, _, rfl, rfl⟩⟩
  · rename_i b hu
    cases hx
    exact ⟨_, hu, fun b w => MapKept.run_checkKey hu (by simp [MapKept.IsKey]) b 9999, .inr (.inl ⟨_, rfl, rfl⟩)⟩
  · rename_i fs l hu
    cases hx with
    | agg hl =>
      cases hst : P.stoodInHeld kt with
      | true => rw [hst] at h; cases h
      | false =>
        rw [hst] at h
        simp only [cond_false] at h
        split at h
        · rename_i bb hs
          subst h
          exact ⟨_, hu, fun b w => by
            have g := chk_ok (w := w) b 9998 (p := []) hs hl rfl
            simp only [List.nil_append] at g
            unfold Instr.checkKey
            simp only [Sem.run_bind, run_under hu, Result.andThen]
            rw [← Array.forIn_toList]
            simp at g ⊢
            rw [g], .inr (.inr ⟨_, _, rfl, rfl, hs, hst⟩)⟩
        · cases h
  · cases h
theorem keyEq_ok {kt : TypeId} {x p : V} {xv pv : Value} {d : TypeDesc} {b : Bool} (hu : P.underlying kt = some d) (hk : keyEq P kt x p = some b) (hx : VR e x xv) (hp : VR e p pv) (hd : KOk P kt d x) :
    KEq P kt d xv pv b ∧ (b = true → pv = xv) := by
  rcases hd with ⟨kd, n, k', rfl, rfl⟩ | ⟨s, rfl, rfl⟩ | ⟨l, fs, rfl, rfl, hs, hst⟩
  · unfold keyEq at hk
    split at hk
    · rename_i k1 a k2 b' heq
      injection heq with e1 e2
      subst e1 e2
      cases hx; cases hp
      cases hkk : keq kd k2 with
      | false => rw [hkk] at hk; cases hk
      | true =>
        rw [hkk] at hk
        have := keq_eq hkk
        subst this
        simp only [cond_true] at hk
        injection hk with hk
        rw [ieq_eq] at hk
        refine ⟨by simp [KEq, Instr.sameNow, hk], fun hb => ?_⟩
        subst hb
        have : n = b' := by simpa using hk
        rw [this]
    · rename_i heq; cases heq
    · rename_i heq; cases heq
    · cases hk
  · unfold keyEq at hk
    split at hk
    · rename_i heq; cases heq
    · rename_i a b' heq
      injection heq with e1
      subst e1
      cases hx; cases hp
      injection hk with hk
      refine ⟨by simp [KEq, Instr.sameNow, hk], fun hb => ?_⟩
      subst hb
      rw [ba_eq hk]
    · rename_i heq; cases heq
    · cases hk
  · unfold keyEq at hk
    split at hk
    · rename_i heq; cases heq
    · rename_i heq; cases heq
    · rename_i a b' heq
      injection heq with e1
      subst e1
      cases hx with
      | agg hl => cases hp with
        | agg hp =>
          rw [hu] at hk
          simp only at hk
          have hfs : P.fieldsOf kt = fs := by simp [Program.fieldsOf, hu]
          refine ⟨fun w => ?_, fun hb => ?_⟩
          · obtain ⟨g1, _⟩ := sEq_ok (w := w) 9998 (p := []) (q := []) hk hl hp rfl rfl
            simp only [List.nil_append] at g1
            show (Op.equalIn 10000 kt _ _).run P w = _
            rw [show 10000 = 9999 + 1 from rfl, run_equalIn_struct w 9999 kt _ _ (by rw [hfs]; exact hu) hst, hfs]
            exact g1
          · obtain ⟨_, g2⟩ := sEq_ok (w := default) 9998 (p := []) (q := []) hk hl hp rfl rfl
            rw [g2 hb]
    · cases hk
theorem findE_ok {kt : TypeId} {x : V} {xv : Value} {d : TypeDesc} (hu : P.underlying kt = some d) (hx : VR e x xv) (hd : KOk P kt d x) : ∀ {l : List (V × V × Nat)} {ms : List MapEntry} {f : Option V → RO} (i : Nat),
    findE P kt x l f = r → r.good → ER e l ms → ∃ res, f res = r ∧ ((res = none ∧ KFind P kt d xv ms i none) ∨ ∃ v y n, res = some v ∧ VR e v y ∧ KFind P kt d xv ms i (some (n, y)))
  | [], _, f, i, hk, hr, .nil => ⟨none, hk, .inl ⟨rfl, .nil⟩⟩
  | (pk, pv, pn) :: l, _, f, i, hk, hr, .cons (x := pkv) (y := pvv) hkk hv ht => by
    change (match keyEq P kt x pk with | some true => f (some pv) | some false => findE P kt x l f | none => .err 79) = r at hk
    split at hk
    · rename_i heq
      obtain ⟨g1, g2⟩ := keyEq_ok hu heq hx hkk hd
      exact ⟨_, hk, .inr ⟨pv, pvv, i, rfl, hv, .hit g1⟩⟩
    · rename_i heq
      obtain ⟨g1, g2⟩ := keyEq_ok hu heq hx hkk hd
      obtain ⟨res, h1, h2⟩ := findE_ok hu hx hd (i + 1) hk hr ht
      refine ⟨res, h1, ?_⟩
      rcases h2 with ⟨h2, h3⟩ | ⟨v, y, n, h2, h3, h4⟩
      · exact .inl ⟨h2, .miss g1 h3⟩
      · exact .inr ⟨v, y, n, h2, h3, .miss g1 h4⟩
    · subst hk; cases hr
def lookRes (res : Option (Nat × Value)) (c : Bool) (zv : Value) : Value := match res, c with | some (_, y), true => .tuple #[y, .bool true] | some (_, y), false => y | none, true => .tuple #[zv, .bool false] | none, false => zv
theorem run_lookup {ty kt et : TypeId} {d : TypeDesc} {m : Value} {ms : List MapEntry} {xv zv : Value} {c : Bool} {res : Option (Nat × Value)} (hu : P.underlying ty = some (.map kt et)) (hd : P.underlying kt = some d) (hik : ∀ b w, (Instr.checkKey b 10000 kt xv).run P w = .ok () w)
    (hm : (m = .map none ∧ ms = []) ∨ ∃ n cl, m = .map (some n) ∧ w.heap[n]? = some (.map ⟨ms⟩ cl)) (hf : KFind P kt d xv ms 0 res) (hz : res = none → ∀ w, (zeroValue et).run P w = .ok zv w) :
    (Instr.lookup ty m xv c).run P w = .ok (lookRes res c zv) w := by
  have hck : ∀ b, (Instr.checkKey b 10000 kt xv).run P w = .ok () w := fun b => hik b w
  have hfk := hf.run (w := w) hd
  rcases hm with ⟨rfl, rfl⟩ | ⟨n, cl, rfl, hw⟩
  · simp only [Instr.lookup, Sem.run_bind, run_under hu, Result.andThen, Sem.run_pure, hck]
    rw [hfk]
    cases res with
    | none => simp only [Result.andThen, Sem.run_bind, hz rfl, Sem.run_pure]; cases c <;> rfl
    | some p => obtain ⟨i, y⟩ := p; simp only [Result.andThen, Sem.run_pure]; cases c <;> rfl
  · have hg : (getObj n).run P w = .ok (.map ⟨ms⟩ cl) w := MapKept.run_getObj_map hw
    simp only [Instr.lookup, Sem.run_bind, run_under hu, Result.andThen, hg, Sem.run_pure, hck, hfk]
    cases res with
    | none => simp only [Result.andThen, Sem.run_bind, hz rfl, Sem.run_pure]; cases c <;> rfl
    | some p => obtain ⟨i, y⟩ := p; simp only [Result.andThen, Sem.run_pure]; cases c <;> rfl
end Go.Ev
namespace Go.Ev
variable {D : List Deferred}
variable {P : Program} {pr : Prims} {ih : Rn} {e : Env} {t : T V} {h : H} {s : Nat} {w : World} {a : Act} {r : RO} {k : K} {o : Oper}
theorem lookup_end {et : TypeId} {res : Option V} {ok : Bool} (hk : (match res, zeroV P et with
        | some v, _ => (match ok with | true => k (.tup [v, .bool true]) h s | false => k v h s)
        | none, some z => (match ok with | true => k (.tup [z, .bool false]) h s | false => k z h s)
        | none, none => .err 81) = r) (hr : r.good) {fr : Option (Nat × Value)} (hres : (res = none ∧ fr = none) ∨ ∃ v y n, res = some v ∧ VR e v y ∧ fr = some (n, y)) :
    ∃ v zv, k v h s = r ∧ VR e v (lookRes fr ok zv) ∧ (fr = none → ∀ w, (zeroValue et).run P w = .ok zv w) := by
  rcases hres with ⟨rfl, rfl⟩ | ⟨v, y, n, rfl, hv, rfl⟩
  · cases hz : zeroV P et with
    | none => rw [hz] at hk; subst hk; cases hr
    | some z =>
      rw [hz] at hk
      obtain ⟨i, zv, hi, hz2, hv, hrun⟩ := zeroV_ok (e := e) hz
      cases ok with
      | true => exact ⟨_, zv, hk, .tup (.cons hv (.cons (.bool _) .nil)), fun _ => hrun⟩
      | false => exact ⟨_, zv, hk, hv, fun _ => hrun⟩
  · cases ok with
    | true => exact ⟨_, undef, hk, .tup (.cons hv (.cons (.bool _) .nil)), fun h0 => by cases h0⟩
    | false => exact ⟨_, undef, hk, hv, fun h0 => by cases h0⟩
theorem oLookup_pure {ty : TypeId} {x y : Operand} {c : Bool} (hk : oLookup ty x y c P pr ih t h s k = r) (hr : r.good) (ha : AR D e t a) (hs : Sim e h w) (ho : o.op = .lookup ty x y c) : PureOk P e s h w a o k r := by
  unfold oLookup at hk
  split at hk
  · rename_i kt et hu
    obtain ⟨m, hk, hm⟩ := opnd_ok (a := a) hk hr ha
    obtain ⟨i, hk, hi⟩ := opnd_ok (a := a) hk hr ha
    generalize hc : a.eval x = cv at hm
    generalize hc2 : a.eval y = cv2 at hi
    obtain ⟨hok, hk⟩ := bif_ok hk (by simp [RO.good]) hr
    obtain ⟨d, hd, hik, hdd⟩ := keyOk_ok hok hi
    dsimp only at hk
    cases m with
    | nilm =>
      cases hm
      obtain ⟨v, zv, h1, h2, h3⟩ := lookup_end (e := e) (fr := none) hk hr (.inl ⟨rfl, rfl⟩)
      refine ⟨v, _, h1, h2, ?_⟩
      simp only [execOp, ho, hc, hc2]
      exact run_v (run_lookup hu hd hik (.inl ⟨rfl, rfl⟩) .nil h3)
    | map b =>
      cases hm with
      | map hb =>
        dsimp only at hk
        split at hk
        · rename_i es cl hbl
          obtain ⟨hl, _, ms, hw, hes⟩ := map_at hs hbl hb
          obtain ⟨res, h1, h2⟩ := findE_ok hd hi hdd 0 hk hr hes
          obtain ⟨fr, hfr, hrel⟩ : ∃ fr, KFind P kt d cv2 ms 0 fr ∧ ((res = none ∧ fr = none) ∨ ∃ v y n, res = some v ∧ VR e v y ∧ fr = some (n, y)) := by
            rcases h2 with ⟨h2, h3⟩ | ⟨v, y, n, h2, h3, h4⟩
            · exact ⟨_, h3, .inl ⟨h2, rfl⟩⟩
            · exact ⟨_, h4, .inr ⟨v, y, n, h2, h3, rfl⟩⟩
          obtain ⟨v, zv, g1, g2, g3⟩ := lookup_end (e := e) h1 hr hrel
          refine ⟨v, _, g1, g2, ?_⟩
          simp only [execOp, ho, hc, hc2]
          exact run_v (run_lookup hu hd hik (.inr ⟨_, _, rfl, hw⟩) hfr g3)
        · subst hk; cases hr
    | _ => dsimp only at hk; subst hk; cases hr
  · subst hk; cases hr
theorem putE_ok {kt : TypeId} {x v : V} {xv vv : Value} {c : Nat} {d : TypeDesc} (hu : P.underlying kt = some d) (hx : VR e x xv) (hv : VR e v vv) (hd : KOk P kt d x) : ∀ {l : List (V × V × Nat)} {ms : List MapEntry} {f : List (V × V × Nat) → Bool → RO} (j : Nat),
    putE P kt x v c l f = r → r.good → ER e l ms → ∃ es new, f es new = r ∧ ((new = true ∧ KFind P kt d xv ms j none ∧ ER e es (ms ++ [⟨xv, vv, c⟩])) ∨
      (new = false ∧ ∃ i old en, KFind P kt d xv ms j (some (j + i, old)) ∧ ms[i]? = some en ∧ en.key = xv ∧ ER e es (ms.modify i fun en => { en with key := xv, val := vv })))
  | [], _, f, j, hk, hr, .nil => ⟨_, _, hk, .inl ⟨rfl, .nil, .cons hx hv .nil⟩⟩
  | (pk, pv, pn) :: l, _, f, j, hk, hr, .cons (x := pkv) (y := pvv) (es := ms) hkk hpv ht => by
    change (match keyEq P kt x pk with | some true => f ((x, v, pn) :: l) false | some false => putE P kt x v c l (fun q b => f ((pk, pv, pn) :: q) b) | none => .err 83) = r at hk
    split at hk
    · rename_i heq
      obtain ⟨g1, g2⟩ := keyEq_ok hu heq hx hkk hd
      refine ⟨_, _, hk, .inr ⟨rfl, 0, pvv, ⟨pkv, pvv, pn⟩, KFind.hit g1, rfl, g2 rfl, ?_⟩⟩
      simpa using ER.cons hx hv ht
    · rename_i heq
      obtain ⟨g1, g2⟩ := keyEq_ok hu heq hx hkk hd
      obtain ⟨es, new, h1, h2⟩ := putE_ok hu hx hv hd (j + 1) hk hr ht
      refine ⟨_, _, h1, ?_⟩
      rcases h2 with ⟨h2, h3, h4⟩ | ⟨h2, i, old, en, h3, h4, h5, h6⟩
      · exact .inl ⟨h2, .miss g1 h3, .cons hkk hpv h4⟩
      · refine .inr ⟨h2, i + 1, old, en, ?_, by simpa using h4, h5, ?_⟩
        · have := KFind.miss (en := ⟨pkv, pvv, pn⟩) g1 h3; rwa [show j + 1 + i = j + (i + 1) by omega] at this
        · simpa using ER.cons hkk hpv h6
    · subst hk; cases hr
theorem keyEq_self {kt : TypeId} {x : V} {xv : Value} {d : TypeDesc} (hx : VR e x xv) (hd : KOk P kt d x) : Instr.sameBits 10000 xv xv = true := by
  rcases hd with ⟨kd, n, k', rfl, rfl⟩ | ⟨s, rfl, rfl⟩ | ⟨l, fs, rfl, rfl, hs, _⟩
  · cases hx; simp [Instr.sameBits]
  · cases hx; simp [Instr.sameBits, ba_refl]
  · cases hx with
    | agg hl => have := sameBits_self hs hl; simp [Instr.sameBits]; simpa using this
theorem run_mapUpdate {ty kt et : TypeId} {d : TypeDesc} {n cl : Nat} {ms : List MapEntry} {xv vv : Value} {res : Option (Nat × Value)} (hu : P.underlying ty = some (.map kt et)) (hd : P.underlying kt = some d) (hik : ∀ b w, (Instr.checkKey b 10000 kt xv).run P w = .ok () w)
    (hw : w.heap[n]? = some (.map ⟨ms⟩ cl)) (hf : KFind P kt d xv ms 0 res) (hsame : Instr.sameBits 10000 xv xv = true) (hkey : ∀ i old, res = some (i, old) → ∃ en, ms[i]? = some en ∧ en.key = xv) :
    (Instr.mapUpdate ty (.map (some n)) xv vv).run P w = .ok () { w with heap := w.heap.setIfInBounds n (match res with | some (i, _) => .map ⟨ms.modify i fun en => { en with key := xv, val := vv }⟩ cl | none => .map ⟨ms ++ [⟨xv, vv, cl⟩]⟩ (cl + 1)) } := by
  have hck : (Instr.checkKey false 10000 kt xv).run P w = .ok () w := hik false w
  have hfk := hf.run (w := w) hd
  have hg : (getObj n).run P w = .ok (.map ⟨ms⟩ cl) w := MapKept.run_getObj_map hw
  simp only [Instr.mapUpdate, Sem.run_bind, run_under hu, Result.andThen, hg, hck, hfk]
  cases res with
  | none =>
    simp only
    rw [MapKept.run_setObj_map _ hw]
    simp
  | some p =>
    obtain ⟨i, old⟩ := p
    obtain ⟨en, h1, h2⟩ := hkey i old rfl
    have hks : (Instr.keyThatStays (((⟨ms⟩ : Array MapEntry)[i]?.map (·.key)).getD xv) xv).run P w = .ok xv w := by
      have : ((⟨ms⟩ : Array MapEntry)[i]?.map (·.key)).getD xv = xv := by
        simp [h1, h2]
      rw [this]
      simp [Instr.keyThatStays, hsame]
    simp only [Sem.run_bind, hks, Result.andThen]
    rw [MapKept.run_setObj_map _ hw]
    have : (⟨ms⟩ : Array MapEntry).modify i (fun en => { en with key := xv, val := vv }) = ⟨ms.modify i fun en => { en with key := xv, val := vv }⟩ := by
      apply Array.ext'; simp
    rw [this]
theorem oMapUpdate_ok {ty : TypeId} {m x y : Operand} (hk : oMapUpdate ty m x y P pr ih t h s k = r) (hr : r.good) (ha : AR D e t a) (hs : Sim e h w) (hf : Free e s) (ho : o.op = .mapUpdate ty m x y ∨ o.op = .insert ty m x y) : OpOk P e s h w a o k r := by
  unfold oMapUpdate at hk
  split at hk
  · rename_i kt et hu
    obtain ⟨mv, hk, hm⟩ := opnd_ok (a := a) hk hr ha
    obtain ⟨i, hk, hi⟩ := opnd_ok (a := a) hk hr ha
    obtain ⟨v, hk, hv⟩ := opnd_ok (a := a) hk hr ha
    have fin : ∀ w', (Instr.mapUpdate ty (a.eval m) (a.eval x) (a.eval y)).run P w = .ok () w' → (execOp a.eval o).run P w = .ok .skip w' := fun w' hw' => by
      rcases ho with ho | ho <;> simp only [execOp, ho] <;> exact run_u hw'
    generalize hc : a.eval m = cv at hm fin
    generalize hc2 : a.eval x = cv2 at hi fin
    generalize hc3 : a.eval y = cv3 at hv fin
    obtain ⟨hok, hk⟩ := bif_ok hk (by simp [RO.good]) hr
    obtain ⟨d, hd, hik, hdd⟩ := keyOk_ok hok hi
    split at hk
    · rename_i b
      cases hm with
      | map hb =>
        split at hk
        · rename_i es cl hbl
          obtain ⟨hl, hsh, ms, hw, hes⟩ := map_at hs hbl hb
          obtain ⟨es', new, h1, h2⟩ := putE_ok (c := cl) hd hi hv hdd 0 hk hr hes
          have hsame := keyEq_self hi hdd
          rename_i nn sh sz _ _
          simp only at hsh
          subst hsh
          rcases h2 with ⟨rfl, h3, h4⟩ | ⟨rfl, j, old, en, h3, h4, h5, h6⟩
          · refine ⟨_, _, _, h1, gives_skip (fin _ (run_mapUpdate hu hd hik hw h3 hsame (fun i old h0 => by cases h0))) ⟨e, undef_VR, ?_⟩⟩
            exact set_post hs hf hl hb (by simp) (.map h4)
          · refine ⟨_, _, _, h1, gives_skip (fin _ (run_mapUpdate hu hd hik hw h3 hsame (fun i old h0 => by
              injection h0 with h0; injection h0 with h0 h00; subst h0; exact ⟨en, by simpa using h4, h5⟩))) ⟨e, undef_VR, ?_⟩⟩
            refine set_post hs hf hl hb (by simp) (.map ?_)
            simpa using h6
        · subst hk; cases hr
    · subst hk; cases hr
  · subst hk; cases hr
theorem oRange_ok {ty : TypeId} {x : Operand} (hk : oRange ty x P pr ih t h s k = r) (hr : r.good) (ha : AR D e t a) (hs : Sim e h w) (hf : Free e s) (ho : o.op = .range ty x) : OpOk P e s h w a o k r := by
  unfold oRange at hk
  split at hk
  · rename_i kt et hu
    obtain ⟨v, hk, hv⟩ := opnd_ok (a := a) hk hr ha
    generalize hc : a.eval x = cv at hv
    split at hk
    · cases hv
      obtain ⟨h', e', h1, h2, h3⟩ := newB_ok (sz := 0) (ob := .mapIter none 0 #[] 0) hk hr hs hf (by simp) (fun e' hle => .iter0)
      refine ⟨_, _, _, h1, gives_value (x := .pointer (some ⟨w.heap.size, 0, none⟩)) (w' := w.alloc (.mapIter none 0 #[] 0)) ?_ ⟨e', ?_, h3⟩⟩
      · simp [execOp, ho, hc, Instr.range, run_under hu, Result.andThen, run_newObj]
      · simpa using VR.ptr (o := 0) h2
    · rename_i b
      cases hv with
      | map hb =>
        split at hk
        · rename_i es cl hbl
          obtain ⟨hl, hsh, ms, hw, hes⟩ := map_at hs hbl hb
          obtain ⟨h', e', h1, h2, h3⟩ := newB_ok (sz := 0) (ob := .mapIter (some _) cl #[] cl) hk hr hs hf (by simp) (fun e' hle => .iter (hle.of _ _ hb))
          refine ⟨_, _, _, h1, gives_value (x := .pointer (some ⟨w.heap.size, 0, none⟩)) (w' := w.alloc (.mapIter (some _) cl #[] cl)) ?_ ⟨e', ?_, h3⟩⟩
          · have hg := MapKept.run_getObj_map (P := P) hw
            simp [execOp, ho, hc, Instr.range, run_under hu, Result.andThen, hg, run_newObj]
          · simpa using VR.ptr (o := 0) h2
        · subst hk; cases hr
    · subst hk; cases hr
  · subst hk; cases hr
theorem oMark_ok {ty d2 : TypeId} {x : Operand} (hk : oMark ty x P pr ih t h s k = r) (hr : r.good) (ha : AR D e t a) (hs : Sim e h w) (hf : Free e s) (ho : o.op = .convert ty d2 x) (he : ty = d2) : OpOk P e s h w a o k r := by
  subst he
  unfold oMark at hk
  obtain ⟨v, hk, hv⟩ := opnd_ok (a := a) hk hr ha
  generalize hc : a.eval x = cv at hv
  split at hk
  · rename_i el b off l c hu
    split at hk
    · rename_i t' m hu8 hbl
      have key : ∀ (n sh sz q : Nat), e b = some ⟨n, sh, sz⟩ → cv = .slice (some ⟨n, q, none⟩) l c → OpOk P e s h w a o k r := by
        intro n sh sz q hb hcv
        obtain ⟨hl, cs, elt, fr, hw, g1, g2, g3, g4, g5⟩ := cells_at hs hbl hb
        simp only at g1 g2 g3 g4 g5
        have hlt := (Array.getElem?_eq_some_iff.1 hw).1
        have hsh : w.shape? n = some (elt, cs.size) := by unfold World.shape?; rw [hw]
        have hfz : w.freeze ⟨n, cs.size, none⟩ 1 = { w with heap := w.heap.setIfInBounds n (.cells cs elt (if fr.1 == fr.2 then (cs.size, cs.size + 1) else (min fr.1 cs.size, max fr.2 (cs.size + 1)))) } := by
          unfold World.freeze
          rw [if_neg (by decide)]
          congr 1
          apply Array.ext
          · simp
          · intro i h1 h2
            have hwn : w.heap[n]'hlt = .cells cs elt fr := by have := hw; rw [Array.getElem?_eq_getElem hlt] at this; injection this
            by_cases hi : i = n
            · subst hi
              obtain ⟨f1, f2⟩ := fr
              simp [Array.getElem_modify, hwn]
            · rw [Array.getElem_setIfInBounds_ne (by simpa using h1) (fun h => hi h.symm)]; simp [Array.getElem_modify, Ne.symm hi]
        have hrun : (convert ty ty cv).run P w = .ok cv (w.freeze ⟨n, cs.size, none⟩ 1) := by
          subst hcv
          simp [convert, run_under hu, run_under hu8, markStringish, hsh, Result.andThen]
        refine ⟨_, _, _, hk, gives_value (x := cv) (w' := w.freeze ⟨n, cs.size, none⟩ 1) ?_ ⟨e, ?_, ?_⟩⟩
        · simp only [execOp, ho, hc]; exact run_v hrun
        · exact hv
        · rw [hfz]
          refine set_post (x := ⟨n, sh, sz⟩) hs hf hl hb (by simp) (.cells g1 g2 g3 g4 ?_)
          split
          · right; simp; omega
          · rename_i hne
            right
            have : fr.1 ≠ fr.2 := by simpa using hne
            simp only
            omega
      cases hv with
      | sl hb hle => exact key _ _ _ _ hb rfl
      | sl0 hb => exact key _ _ _ _ hb rfl
    · subst hk; cases hr
  · subst hk; cases hr
end Go.Ev
namespace Go.Ev
variable {D : List Deferred}
variable {P : Program} {pr : Prims} {ih : Rn} {e : Env} {t : T V} {h : H} {s : Nat} {w : World} {a : Act} {r : RO} {k : K} {o : Oper}
theorem iter_at (hs : Sim e h w) {b : Nat} {m : Option Nat} {since last : Nat} {seen : List Nat} (hb : h.get .gone b = .iter m since seen last) {x : Loc} (hx : e b = some x) :
    live h b ∧ x.sh = 0 ∧ ((m = none ∧ w.heap[x.n]? = some (.mapIter none since ⟨seen⟩ last)) ∨ ∃ bm y, m = some bm ∧ e bm = some y ∧ w.heap[x.n]? = some (.mapIter (some y.n) since ⟨seen⟩ last)) := by
  have hl : live h b := live_of_cells hb (by simp)
  obtain ⟨x', o', h1, h2, h3⟩ := hs.blk b hl
  rw [hx] at h1; injection h1 with h1; subst h1
  rw [hb] at h3
  cases h3 with
  | iter0 => exact ⟨hl, rfl, .inl ⟨rfl, h2⟩⟩
  | iter g => exact ⟨hl, rfl, .inr ⟨_, _, rfl, g, h2⟩⟩
theorem oNext_ok {x : Operand} {c : Bool} (hk : oNext x c P pr ih t h s k = r) (hr : r.good) (ha : AR D e t a) (hs : Sim e h w) (hf : Free e s) (ho : o.op = .next x c) : OpOk P e s h w a o k r := by
  unfold oNext at hk
  split at hk
  · subst hk; cases hr
  · obtain ⟨v, hk, hv⟩ := opnd_ok (a := a) hk hr ha
    generalize hc : a.eval x = cv at hv
    split at hk
    · rename_i rb
      cases hv with
      | @ptr _ _ n sh sz hb =>
        split at hk
        · rename_i since seen last hbl
          obtain ⟨hl, hsh, ⟨_, hw⟩ | ⟨bm, y, hm, _, _⟩⟩ := iter_at hs hbl hb
          · simp only at hsh hw
            subst hsh
            refine ⟨_, h, s, hk, pure_ok hs hf (.tup (.cons (.bool _) .nil)) ?_⟩
            have hg := run_getObj (P := P) hw (by simp)
            simp [execOp, ho, hc, Instr.next, hg, Result.andThen]
          · cases hm
        · rename_i bm since seen last hbl
          obtain ⟨hl, hsh, ⟨hm, _⟩ | ⟨bm', y, hm, hy, hw⟩⟩ := iter_at hs hbl hb
          · cases hm
          · injection hm with hm
            subst hm
            simp only at hsh hw
            subst hsh
            have hg := run_getObj (P := P) hw (by simp)
            split at hk
            · rename_i cl hmb
              obtain ⟨hlm, _, ms, hwm, hes⟩ := map_at hs hmb hy
              cases hes
              refine ⟨_, h, s, hk, pure_ok hs hf (.tup (.cons (.bool _) .nil)) ?_⟩
              have hgm := MapKept.run_getObj_map (P := P) hwm
              simp [execOp, ho, hc, Instr.next, hg, hgm, Result.andThen, choose, Sem.run, Question.forced]
            · rename_i kx vx nx cl hmb
              obtain ⟨hlm, _, ms, hwm, hes⟩ := map_at hs hmb hy
              cases hes with
              | cons hkx hvx hnil =>
                cases hnil
                have hgm := MapKept.run_getObj_map (P := P) hwm
                split at hk
                · obtain ⟨hle, hk⟩ := bif_ok hk (by simp [RO.good]) hr
                  have hle : nx < since := Nat.le_of_ble_eq_true hle
                  refine ⟨_, _, s, hk, gives_value (x := .tuple #[.bool true, _, _]) (w' := { w with heap := w.heap.setIfInBounds n (.mapIter (some y.n) since #[nx] cl) }) ?_ ⟨e, .tup (.cons (.bool _) (.cons hkx (.cons hvx .nil))), set_post hs hf hl hb (by simp) (.iter hy)⟩⟩
                  have hset := fun o' => run_setObj (P := P) (ob' := o') hw (by simp)
                  simp [execOp, ho, hc, Instr.next, hg, hgm, Result.andThen, choose, Sem.run, Question.forced, hle, hset, Nat.not_le.2 hle]
                · rename_i m'
                  obtain ⟨hc3, hk⟩ := bif_ok hk (by simp [RO.good]) hr
                  obtain ⟨d1, d2⟩ := and2 hc3
                  have d1 := Nat.eq_of_beq_eq_true d1
                  have hk' := hk
                  subst d1
                  have d2 : m' < last := Nat.le_of_ble_eq_true d2
                  refine ⟨_, h, s, hk', pure_ok hs hf (.tup (.cons (.bool _) .nil)) ?_⟩
                  simp [execOp, ho, hc, Instr.next, hg, hgm, Result.andThen, choose, Sem.run, Question.forced, Nat.not_le.2 d2]
                · subst hk; cases hr
            · subst hk; cases hr
        · subst hk; cases hr
    · subst hk; cases hr
theorem findB_ok : ∀ {es : List (V × V × Nat)} {ms : List MapEntry} {n : Nat} {x y : V}, findB n es = some (x, y) → ER e es ms → ∃ m, ms.find? (fun m => m.born == n) = some m ∧ VR e x m.key ∧ VR e y m.val
  | _, _, n, x, y, h, .nil => by cases h
  | (x0, y0, m) :: es, _, n, x, y, h, .cons (x := kx) (y := vy) (es := ms) hk hv ht => by
    change (bif Nat.beq m n then some (x0, y0) else findB n es) = some (x, y) at h
    cases hb : Nat.beq m n with
    | true =>
      rw [hb] at h
      simp only [cond_true] at h
      injection h with h; injection h with h1 h2
      subst h1 h2
      have := Nat.eq_of_beq_eq_true hb
      subst this
      exact ⟨_, by rw [List.find?_cons_of_pos (by simp)], hk, hv⟩
    | false =>
      rw [hb] at h
      have hne := Nat.ne_of_beq_eq_false hb
      obtain ⟨m', g1, g2⟩ := findB_ok h ht
      exact ⟨m', by rw [List.find?_cons_of_neg (by simpa using hne)]; exact g1, g2⟩
theorem oEntry_pure {x : Operand} (hk : oEntry x P pr ih t h s k = r) (hr : r.good) (ha : AR D e t a) (hs : Sim e h w) (ho : o.op = .entry x) : PureOk P e s h w a o k r := by
  unfold oEntry at hk
  obtain ⟨v, hk, hv⟩ := opnd_ok (a := a) hk hr ha
  generalize hc : a.eval x = cv at hv
  split at hk
  · rename_i rb
    cases hv with
    | @ptr _ _ n sh sz hb =>
      split at hk
      · rename_i bm since seen last hbl
        obtain ⟨hl, hsh, ⟨hm, _⟩ | ⟨bm', y, hm, hy, hw⟩⟩ := iter_at hs hbl hb
        · cases hm
        · injection hm with hm
          subst hm
          simp only at hsh hw
          subst hsh
          have hg := run_getObj (P := P) hw (by simp)
          split at hk
          · rename_i stamp
            split at hk
            · rename_i es cl hmb
              obtain ⟨hlm, _, ms, hwm, hes⟩ := map_at hs hmb hy
              have hgm := MapKept.run_getObj_map (P := P) hwm
              obtain ⟨hcl, hk2⟩ := bif_ok hk (by simp [RO.good]) hr
              clear hk
              have hcl := Nat.eq_of_beq_eq_true hcl
              subst hcl
              split at hk2
              · rename_i kx vx hfind
                obtain ⟨m, g1, g2, g3⟩ := findB_ok hfind hes
                refine ⟨_, _, hk2, .tup (.cons g2 (.cons g3 .nil)), ?_⟩
                have gm := hgm
                simp [execOp, ho, hc, Instr.entry, hg, Result.andThen, gm, g1]
              · subst hk2; cases hr
            · subst hk; cases hr
          · subst hk; cases hr
      · subst hk; cases hr
  · subst hk; cases hr
/-- What is appended. -/
theorem srcCells_ok {z : Nat} {x : V} {f : Nat → List V → RO} (hk : srcCells z h x f = r) (hr : r.good) (hs : Sim e h w) {xv : Value} (hx : VR e x xv) :
    ∃ n cs xs, f n cs = r ∧ VRs e cs xs ∧ (Builtin.lenOf xv).run P w = .ok n w ∧ xs.length = n * z ∧ (∀ w', w'.heap = w.heap → ∀ m, m ≤ n → (Builtin.firstCells z m xv).run P w' = .ok ⟨xs.take (m * z)⟩ w') := by
  unfold srcCells at hk
  split at hk
  · cases hx
    exact ⟨0, [], [], hk, .nil, rfl, by simp, fun w' hw' m hm => by simp [Builtin.firstCells]⟩
  · rename_i b off l c
    have hlen : (Builtin.lenOf xv).run P w = .ok l w := by cases hx <;> rfl
    split at hk
    · rename_i t' m hb
      obtain ⟨hle, hk⟩ := bif_ok hk (by simp [RO.good]) hr
      have hle : off + l * z ≤ m := Nat.le_of_ble_eq_true hle
      cases hx with
      | @sl _ _ _ _ n sh sz hb' hlc =>
        obtain ⟨hl, cc, el, fr, hw, h1, h2, h3, h4, h5⟩ := cells_at hs hb hb'
        obtain ⟨xs, hxl, hxs, hget⟩ := rd_ok h3 hle
        refine ⟨l, _, xs, hk, hxs, hlen, hxl, fun w' hw' m' hm' => ?_⟩
        have hle2 : m' * z ≤ l * z := Nat.mul_le_mul_right z hm'
        have := run_firstCells_some (P := P) (w := w') z m' ⟨n, sh + off, none⟩ l c (xs.take (m' * z)) (by simp; omega) (fun j v hv => by
          rw [addr_add, cell_at (w := w') (by rw [hw']; exact hw)]
          rw [List.getElem?_take] at hv
          split at hv
          · exact hget j v hv
          · cases hv)
        simpa using this
      | @sl0 _ _ x0 n sh sz hb' =>
        refine ⟨0, _, [], hk, ?_, hlen, by simp, fun w' hw' m' hm' => ?_⟩
        · rw [show Nat.mul 0 z = 0 from Nat.zero_mul z]; exact .nil
        · have : m' = 0 := by omega
          subst this
          have := run_firstCells_some (P := P) (w := w') z 0 ⟨n, x0, none⟩ 0 0 [] (by simp) (fun j v hv => by simp at hv)
          simpa using this
    · obtain ⟨hz, hk⟩ := bif_ok hk (by simp [RO.good]) hr
      have hz := Nat.eq_of_beq_eq_true hz
      subst hz
      refine ⟨0, [], [], hk, .nil, hlen, by simp, fun w' hw' m' hm' => ?_⟩
      have : m' = 0 := by omega
      subst this
      cases hx <;> simp [Builtin.firstCells, loadCells, loadCellsFrom]
  · rename_i b off l z0
    have hlen : (Builtin.lenOf xv).run P w = .ok l w := by cases hx <;> rfl
    split at hk
    · rename_i t' m hb
      obtain ⟨hle, hk⟩ := bif_ok hk (by simp [RO.good]) hr
      have hle : off + l * z ≤ m := Nat.le_of_ble_eq_true hle
      cases hx with
      | @slu _ _ _ _ c n sh sz hb' hlc hcz =>
        obtain ⟨hl, cc, el, fr, hw, h1, h2, h3, h4, h5⟩ := cells_at hs hb hb'
        obtain ⟨xs, hxl, hxs, hget⟩ := rd_ok h3 hle
        refine ⟨l, _, xs, hk, hxs, hlen, hxl, fun w' hw' m' hm' => ?_⟩
        have hle2 : m' * z ≤ l * z := Nat.mul_le_mul_right z hm'
        have := run_firstCells_some (P := P) (w := w') z m' ⟨n, sh + off, none⟩ l c (xs.take (m' * z)) (by simp; omega) (fun j v hv => by
          rw [addr_add, cell_at (w := w') (by rw [hw']; exact hw)]
          rw [List.getElem?_take] at hv
          split at hv
          · exact hget j v hv
          · cases hv)
        simpa using this
      | @slu0 _ _ _ x0 n sh sz hb' hx0 =>
        refine ⟨0, _, [], hk, ?_, hlen, by simp, fun w' hw' m' hm' => ?_⟩
        · rw [show Nat.mul 0 z = 0 from Nat.zero_mul z]; exact .nil
        · have : m' = 0 := by omega
          subst this
          have := run_firstCells_some (P := P) (w := w') z 0 ⟨n, x0, none⟩ 0 0 [] (by simp) (fun j v hv => by simp at hv)
          simpa using this
    · obtain ⟨hz, hk⟩ := bif_ok hk (by simp [RO.good]) hr
      have hz := Nat.eq_of_beq_eq_true hz
      subst hz
      refine ⟨0, [], [], hk, .nil, hlen, by simp, fun w' hw' m' hm' => ?_⟩
      have : m' = 0 := by omega
      subst this
      cases hx <;> simp [Builtin.firstCells, loadCells, loadCellsFrom]
  · rename_i j o l
    obtain ⟨hz, hk⟩ := bif_ok hk (by simp [RO.good]) hr
    have hz := Nat.eq_of_beq_eq_true hz
    subst hz
    cases hx with
    | @xsl _ _ _ n sh mm c c' hb' hlm hlc =>
      obtain ⟨xs, hxl, hxs, hget⟩ := ext_rd hs hb' hlm
      refine ⟨l, _, xs, hk, hxs, rfl, by omega, fun w' hw' m' hm' => ?_⟩
      have := run_firstCells_some (P := P) (w := w') 1 m' ⟨n, sh + o, none⟩ l c' (xs.take (m' * 1)) (by simp; omega) (fun j v hv => by
        rw [addr_add]
        rw [List.getElem?_take] at hv
        split at hv
        · have := hget j v hv
          simpa [World.cell?, hw'] using this
        · cases hv)
      simpa using this
  · rename_i b
    cases hx
    obtain ⟨hz, hk⟩ := bif_ok hk (by simp [RO.good]) hr
    have hz := Nat.eq_of_beq_eq_true hz
    subst hz
    refine ⟨b.size, _, b.data.toList.map (fun c => .int .u8 c.toNat), hk, ?_, rfl, by rw [List.length_map, Nat.mul_one, Array.length_toList]; rfl, fun w' hw' m hm => ?_⟩
    · generalize b.data.toList = l
      induction l with
      | nil => exact .nil
      | cons c l ih => exact .cons (.int _ _) ih
    · simp only [Builtin.firstCells, Sem.run_pure, Nat.mul_one]
      congr 1
      apply Array.ext'
      simp [ByteArray.data_extract, List.extract_eq_take_drop]
  · subst hk; cases hr
end Go.Ev
