/- An evaluator of the model's code, eleventh part: the operations upon maps. -/
import Derived.Test.YtnklmadmenkdoaaGreatEvJ
set_option linter.unusedVariables false
set_option linter.unusedSimpArgs false
namespace Go.Ev
variable {D : List Deferred}
variable {P : Program} {pr : Prims} {ih : Rn} {e : Env} {t : T V} {h : H} {s : Nat} {w : World} {a : Act} {r : RO} {k : K} {o : Oper}
theorem lookup_end {et : TypeId} {res : Option V} {ok : Bool} (hk : (match res, zeroV P et with
        | some v, _ => (match ok with | true => k (.tup [v, .bool true]) h s | false => k v h s)
        | none, some z => (match ok with | true => k (.tup [z, .bool false]) h s | false => k z h s)
        | none, none => .err 81) = r) (hr : r.good) {fr : Option (Nat × Value)} (hres : (res = none ∧ fr = none) ∨ ∃ v y n, res = some v ∧ VR e v y ∧ fr = some (n, y)) :
    ∃ v zv, k v h s = r ∧ VR e v (lookRes fr ok zv) ∧ (fr = none → ∀ w, (zeroValue et).run P w = .ok zv w) := by
  rcases hres with ⟨rfl, rfl⟩ | ⟨v, y, n, rfl, hv, rfl⟩
  · cases hz : zeroV P et with
    | none => rw [hz] at hk; subst hk; cases hr
    | some z =>
      rw [hz] at hk
      obtain ⟨i, zv, hi, hz2, hv, hrun⟩ := zeroV_ok (e := e) hz
      cases ok with
      | true => exact ⟨_, zv, hk, .tup (.cons hv (.cons (.bool _) .nil)), fun _ => hrun⟩
      | false => exact ⟨_, zv, hk, hv, fun _ => hrun⟩
  · cases ok with
    | true => exact ⟨_, undef, hk, .tup (.cons hv (.cons (.bool _) .nil)), fun h0 => by cases h0⟩
    | false => exact ⟨_, undef, hk, hv, fun h0 => by cases h0⟩
theorem oLookup_pure {ty : TypeId} {x y : Operand} {c : Bool} (hk : oLookup ty x y c P pr ih t h s k = r) (hr : r.good) (ha : AR D e t a) (hs : Sim e h w) (ho : o.op = .lookup ty x y c) : PureOk P e s h w a o k r := by
  unfold oLookup at hk
  split at hk
  · rename_i kt et hu
    obtain ⟨m, hk, hm⟩ := opnd_ok (a := a) hk hr ha
    obtain ⟨i, hk, hi⟩ := opnd_ok (a := a) hk hr ha
    generalize hc : a.eval x = cv at hm
    generalize hc2 : a.eval y = cv2 at hi
    obtain ⟨hok, hk⟩ := bif_ok hk (by simp [RO.good]) hr
    obtain ⟨d, hd, hik, hdd⟩ := keyOk_ok hok hi
    dsimp only at hk
    cases m with
    | nilm =>
      cases hm
      obtain ⟨v, zv, h1, h2, h3⟩ := lookup_end (e := e) (fr := none) hk hr (.inl ⟨rfl, rfl⟩)
      refine ⟨v, _, h1, h2, ?_⟩
      simp only [execOp, ho, hc, hc2]
      exact run_v (run_lookup hu hd hik (.inl ⟨rfl, rfl⟩) .nil h3)
    | map b =>
      cases hm with
      | map hb =>
        dsimp only at hk
        split at hk
        · rename_i es cl hbl
          obtain ⟨hl, _, ms, hw, hes⟩ := map_at hs hbl hb
          obtain ⟨res, h1, h2⟩ := findE_ok hd hi hdd 0 hk hr hes
          obtain ⟨fr, hfr, hrel⟩ : ∃ fr, KFind P kt d cv2 ms 0 fr ∧ ((res = none ∧ fr = none) ∨ ∃ v y n, res = some v ∧ VR e v y ∧ fr = some (n, y)) := by
            rcases h2 with ⟨h2, h3⟩ | ⟨v, y, n, h2, h3, h4⟩
            · exact ⟨_, h3, .inl ⟨h2, rfl⟩⟩
            · exact ⟨_, h4, .inr ⟨v, y, n, h2, h3, rfl⟩⟩
          obtain ⟨v, zv, g1, g2, g3⟩ := lookup_end (e := e) h1 hr hrel
          refine ⟨v, _, g1, g2, ?_⟩
          simp only [execOp, ho, hc, hc2]
          exact run_v (run_lookup hu hd hik (.inr ⟨_, _, rfl, hw⟩) hfr g3)
        · subst hk; cases hr
    | _ => dsimp only at hk; subst hk; cases hr
  · subst hk; cases hr
theorem putE_ok {kt : TypeId} {x v : V} {xv vv : Value} {c : Nat} {d : TypeDesc} (hu : P.underlying kt = some d) (hx : VR e x xv) (hv : VR e v vv) (hd : KOk P kt d x) : ∀ {l : List (V × V × Nat)} {ms : List MapEntry} {f : List (V × V × Nat) → Bool → RO} (j : Nat),
    putE P kt x v c l f = r → r.good → ER e l ms → ∃ es new, f es new = r ∧ ((new = true ∧ KFind P kt d xv ms j none ∧ ER e es (ms ++ [⟨xv, vv, c⟩])) ∨
      (new = false ∧ ∃ i old en, KFind P kt d xv ms j (some (j + i, old)) ∧ ms[i]? = some en ∧ en.key = xv ∧ ER e es (ms.modify i fun en => { en with key := xv, val := vv })))
  | [], _, f, j, hk, hr, .nil => ⟨_, _, hk, .inl ⟨rfl, .nil, .cons hx hv .nil⟩⟩
  | (pk, pv, pn) :: l, _, f, j, hk, hr, .cons (x := pkv) (y := pvv) (es := ms) hkk hpv ht => by
    change (match keyEq P kt x pk with | some true => f ((x, v, pn) :: l) false | some false => putE P kt x v c l (fun q b => f ((pk, pv, pn) :: q) b) | none => .err 83) = r at hk
    split at hk
    · rename_i heq
      obtain ⟨g1, g2⟩ := keyEq_ok hu heq hx hkk hd
      refine ⟨_, _, hk, .inr ⟨rfl, 0, pvv, ⟨pkv, pvv, pn⟩, KFind.hit g1, rfl, g2 rfl, ?_⟩⟩
      simpa using ER.cons hx hv ht
    · rename_i heq
      obtain ⟨g1, g2⟩ := keyEq_ok hu heq hx hkk hd
      obtain ⟨es, new, h1, h2⟩ := putE_ok hu hx hv hd (j + 1) hk hr ht
      refine ⟨_, _, h1, ?_⟩
      rcases h2 with ⟨h2, h3, h4⟩ | ⟨h2, i, old, en, h3, h4, h5, h6⟩
      · exact .inl ⟨h2, .miss g1 h3, .cons hkk hpv h4⟩
      · refine .inr ⟨h2, i + 1, old, en, ?_, by simpa using h4, h5, ?_⟩
        · have := KFind.miss (en := ⟨pkv, pvv, pn⟩) g1 h3; rwa [show j + 1 + i = j + (i + 1) by omega] at this
        · simpa using ER.cons hkk hpv h6
    · subst hk; cases hr
theorem keyEq_self {kt : TypeId} {x : V} {xv : Value} {d : TypeDesc} (hx : VR e x xv) (hd : KOk P kt d x) : Instr.sameBits 10000 xv xv = true := by
  rcases hd with ⟨kd, n, k', rfl, rfl⟩ | ⟨s, rfl, rfl⟩ | ⟨l, fs, rfl, rfl, hs, _⟩
  · cases hx; simp [Instr.sameBits]
  · cases hx; simp [Instr.sameBits, ba_refl]
  · cases hx with
    | agg hl => have := sameBits_self hs hl; simp [Instr.sameBits]; simpa using this
theorem run_mapUpdate {ty kt et : TypeId} {d : TypeDesc} {n cl : Nat} {ms : List MapEntry} {xv vv : Value} {res : Option (Nat × Value)} (hu : P.underlying ty = some (.map kt et)) (hd : P.underlying kt = some d) (hik : ∀ b w, (Instr.checkKey b 10000 kt xv).run P w = .ok () w)
    (hw : w.heap[n]? = some (.map ⟨ms⟩ cl)) (hf : KFind P kt d xv ms 0 res) (hsame : Instr.sameBits 10000 xv xv = true) (hkey : ∀ i old, res = some (i, old) → ∃ en, ms[i]? = some en ∧ en.key = xv) :
    (Instr.mapUpdate ty (.map (some n)) xv vv).run P w = .ok () { w with heap := w.heap.setIfInBounds n (match res with | some (i, _) => .map ⟨ms.modify i fun en => { en with key := xv, val := vv }⟩ cl | none => .map ⟨ms ++ [⟨xv, vv, cl⟩]⟩ (cl + 1)) } := by
  have hck : (Instr.checkKey false 10000 kt xv).run P w = .ok () w := hik false w
  have hfk := hf.run (w := w) hd
  have hg : (getObj n).run P w = .ok (.map ⟨ms⟩ cl) w := MapKept.run_getObj_map hw
  simp only [Instr.mapUpdate, Sem.run_bind, run_under hu, Result.andThen, hg, hck, hfk]
  cases res with
  | none =>
    simp only
    rw [MapKept.run_setObj_map _ hw]
    simp
  | some p =>
    obtain ⟨i, old⟩ := p
    obtain ⟨en, h1, h2⟩ := hkey i old rfl
    have hks : (Instr.keyThatStays (((⟨ms⟩ : Array MapEntry)[i]?.map (·.key)).getD xv) xv).run P w = .ok xv w := by
      have : ((⟨ms⟩ : Array MapEntry)[i]?.map (·.key)).getD xv = xv := by
        simp [h1, h2]
      rw [this]
      simp [Instr.keyThatStays, hsame]
    simp only [Sem.run_bind, hks, Result.andThen]
    rw [MapKept.run_setObj_map _ hw]
    have : (⟨ms⟩ : Array MapEntry).modify i (fun en => { en with key := xv, val := vv }) = ⟨ms.modify i fun en => { en with key := xv, val := vv }⟩ := by
      apply Array.ext'; simp
    rw [this]
theorem oMapUpdate_ok {ty : TypeId} {m x y : Operand} (hk : oMapUpdate ty m x y P pr ih t h s k = r) (hr : r.good) (ha : AR D e t a) (hs : Sim e h w) (hf : Free e s) (ho : o.op = .mapUpdate ty m x y ∨ o.op = .insert ty m x y) : OpOk P e s h w a o k r := by
  unfold oMapUpdate at hk
  split at hk
  · rename_i kt et hu
    obtain ⟨mv, hk, hm⟩ := opnd_ok (a := a) hk hr ha
    obtain ⟨i, hk, hi⟩ := opnd_ok (a := a) hk hr ha
    obtain ⟨v, hk, hv⟩ := opnd_ok (a := a) hk hr ha
    have fin : ∀ w', (Instr.mapUpdate ty (a.eval m) (a.eval x) (a.eval y)).run P w = .ok () w' → (execOp a.eval o).run P w = .ok .skip w' := fun w' hw' => by
      rcases ho with ho | ho <;> simp only [execOp, ho] <;> exact run_u hw'
    generalize hc : a.eval m = cv at hm fin
    generalize hc2 : a.eval x = cv2 at hi fin
    generalize hc3 : a.eval y = cv3 at hv fin
    obtain ⟨hok, hk⟩ := bif_ok hk (by simp [RO.good]) hr
    obtain ⟨d, hd, hik, hdd⟩ := keyOk_ok hok hi
    split at hk
    · rename_i b
      cases hm with
      | map hb =>
        split at hk
        · rename_i es cl hbl
          obtain ⟨hl, hsh, ms, hw, hes⟩ := map_at hs hbl hb
          obtain ⟨es', new, h1, h2⟩ := putE_ok (c := cl) hd hi hv hdd 0 hk hr hes
          have hsame := keyEq_self hi hdd
          rename_i nn sh sz _ _
          simp only at hsh
          subst hsh
          rcases h2 with ⟨rfl, h3, h4⟩ | ⟨rfl, j, old, en, h3, h4, h5, h6⟩
          · refine ⟨_, _, _, h1, gives_skip (fin _ (run_mapUpdate hu hd hik hw h3 hsame (fun i old h0 => by cases h0))) ⟨e, undef_VR, ?_⟩⟩
            exact set_post hs hf hl hb (by simp) (.map h4)
          · refine ⟨_, _, _, h1, gives_skip (fin _ (run_mapUpdate hu hd hik hw h3 hsame (fun i old h0 => by
              injection h0 with h0; injection h0 with h0 h00; subst h0; exact ⟨en, by simpa using h4, h5⟩))) ⟨e, undef_VR, ?_⟩⟩
            refine set_post hs hf hl hb (by simp) (.map ?_)
            simpa using h6
        · subst hk; cases hr
    · subst hk; cases hr
  · subst hk; cases hr
theorem oRange_ok {ty : TypeId} {x : Operand} (hk : oRange ty x P pr ih t h s k = r) (hr : r.good) (ha : AR D e t a) (hs : Sim e h w) (hf : Free e s) (ho : o.op = .range ty x) : OpOk P e s h w a o k r := by
  unfold oRange at hk
  split at hk
  · rename_i kt et hu
    obtain ⟨v, hk, hv⟩ := opnd_ok (a := a) hk hr ha
    generalize hc : a.eval x = cv at hv
    split at hk
    · cases hv
      obtain ⟨h', e', h1, h2, h3⟩ := newB_ok (sz := 0) (ob := .mapIter none 0 #[] 0) hk hr hs hf (by simp) (fun e' hle => .iter0)
      refine ⟨_, _, _, h1, gives_value (x := .pointer (some ⟨w.heap.size, 0, none⟩)) (w' := w.alloc (.mapIter none 0 #[] 0)) ?_ ⟨e', ?_, h3⟩⟩
      · simp [execOp, ho, hc, Instr.range, run_under hu, Result.andThen, run_newObj]
      · simpa using VR.ptr (o := 0) h2
    · rename_i b
      cases hv with
      | map hb =>
        split at hk
        · rename_i es cl hbl
          obtain ⟨hl, hsh, ms, hw, hes⟩ := map_at hs hbl hb
          obtain ⟨h', e', h1, h2, h3⟩ := newB_ok (sz := 0) (ob := .mapIter (some _) cl #[] cl) hk hr hs hf (by simp) (fun e' hle => .iter (hle _ _ hb))
          refine ⟨_, _, _, h1, gives_value (x := .pointer (some ⟨w.heap.size, 0, none⟩)) (w' := w.alloc (.mapIter (some _) cl #[] cl)) ?_ ⟨e', ?_, h3⟩⟩
          · have hg := MapKept.run_getObj_map (P := P) hw
            simp [execOp, ho, hc, Instr.range, run_under hu, Result.andThen, hg, run_newObj]
          · simpa using VR.ptr (o := 0) h2
        · subst hk; cases hr
    · subst hk; cases hr
  · subst hk; cases hr
theorem oMark_ok {ty d2 : TypeId} {x : Operand} (hk : oMark ty x P pr ih t h s k = r) (hr : r.good) (ha : AR D e t a) (hs : Sim e h w) (hf : Free e s) (ho : o.op = .convert ty d2 x) (he : ty = d2) : OpOk P e s h w a o k r := by
  subst he
  unfold oMark at hk
  obtain ⟨v, hk, hv⟩ := opnd_ok (a := a) hk hr ha
  generalize hc : a.eval x = cv at hv
  split at hk
  · rename_i el b off l c hu
    split at hk
    · rename_i t' m hu8 hbl
      have key : ∀ (n sh sz q : Nat), e b = some ⟨n, sh, sz⟩ → cv = .slice (some ⟨n, q, none⟩) l c → OpOk P e s h w a o k r := by
        intro n sh sz q hb hcv
        obtain ⟨hl, cs, elt, fr, hw, g1, g2, g3, g4, g5⟩ := cells_at hs hbl hb
        simp only at g1 g2 g3 g4 g5
        have hlt := (Array.getElem?_eq_some_iff.1 hw).1
        have hsh : w.shape? n = some (elt, cs.size) := by unfold World.shape?; rw [hw]
        have hfz : w.freeze ⟨n, cs.size, none⟩ 1 = { w with heap := w.heap.setIfInBounds n (.cells cs elt (if fr.1 == fr.2 then (cs.size, cs.size + 1) else (min fr.1 cs.size, max fr.2 (cs.size + 1)))) } := by
          unfold World.freeze
          rw [if_neg (by decide)]
          congr 1
          apply Array.ext
          · simp
          · intro i h1 h2
            have hwn : w.heap[n]'hlt = .cells cs elt fr := by have := hw; rw [Array.getElem?_eq_getElem hlt] at this; injection this
            by_cases hi : i = n
            · subst hi
              obtain ⟨f1, f2⟩ := fr
              simp [Array.getElem_modify, hwn]
            · rw [Array.getElem_setIfInBounds_ne (by simpa using h1) (fun h => hi h.symm)]; simp [Array.getElem_modify, Ne.symm hi]
        have hrun : (convert ty ty cv).run P w = .ok cv (w.freeze ⟨n, cs.size, none⟩ 1) := by
          subst hcv
          simp [convert, run_under hu, run_under hu8, markStringish, hsh, Result.andThen]
        refine ⟨_, _, _, hk, gives_value (x := cv) (w' := w.freeze ⟨n, cs.size, none⟩ 1) ?_ ⟨e, ?_, ?_⟩⟩
        · simp only [execOp, ho, hc]; exact run_v hrun
        · exact hv
        · rw [hfz]
          refine set_post (x := ⟨n, sh, sz⟩) hs hf hl hb (by simp) (.cells g1 g2 g3 g4 ?_)
          split
          · right; simp; omega
          · rename_i hne
            right
            have : fr.1 ≠ fr.2 := by simpa using hne
            simp only
            omega
      cases hv with
      | sl hb hle => exact key _ _ _ _ hb rfl
      | sl0 hb => exact key _ _ _ _ hb rfl
    · subst hk; cases hr
  · subst hk; cases hr
end Go.Ev
