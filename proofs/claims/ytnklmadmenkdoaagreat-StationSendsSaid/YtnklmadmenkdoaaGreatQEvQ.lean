/- An evaluator of the model's code, sixteenth part: calls, and every operation. An evaluator of the model's code, seventeenth part: calls; every operation. -/
import Derived.Test.YtnklmadmenkdoaaGreatQEvO
set_option linter.unusedVariables false
set_option linter.unusedSimpArgs false
namespace Go.Ev
variable {D : List Deferred}
variable {P : Program} {pr : Prims} {ih : Rn} {e : Env} {t : T V} {h : H} {s : Nat} {w : World} {a : Act} {r : RO} {k : K} {o : Oper}
/-- What a piece of code leaves, in the model. -/
def LR (D : List Deferred) (r : RO) (e : Env) (s : Nat) (h : H) (w : World) (x : Exit) (a' : Act) (w' : World) : Prop :=
  match r with
  | .norm t' h' s' => x = .normal ∧ ∃ e', AR D e' t' a' ∧ Post e s h w e' s' h' w'
  | .exit id t' h' s' => x = .exit id ∧ ∃ e', AR D e' t' a' ∧ Post e s h w e' s' h' w'
  | .ret t' h' s' => x = .ret ∧ ∃ e', AR D e' t' a' ∧ Post e s h w e' s' h' w'
  | .err _ => False
  | .or p q => LR D p e s h w x a' w' ∨ LR D q e s h w x a' w'
theorem LR.sub {l : RO} (hl : Sub l r) {x : Exit} {a' : Act} {w' : World} (q : LR D l e s h w x a' w') : LR D r e s h w x a' w' := by
  induction hl with
  | refl => exact q
  | left _ ih => exact .inl ih
  | right _ ih => exact .inr ih
def RO.leafy : RO → Prop
  | .or _ _ => False
  | _ => True
theorem LR.leaf : ∀ {r : RO} {x : Exit} {a' : Act} {w' : World}, LR D r e s h w x a' w' → ∃ l, Sub l r ∧ l.leafy ∧ LR D l e s h w x a' w'
  | .norm .., _, _, _, q => ⟨_, .refl _, trivial, q⟩
  | .exit .., _, _, _, q => ⟨_, .refl _, trivial, q⟩
  | .ret .., _, _, _, q => ⟨_, .refl _, trivial, q⟩
  | .err _, _, _, _, q => q.elim
  | .or p1 p2, _, _, _, q => by
    rcases q with q | q
    · obtain ⟨l, g1, g2, g3⟩ := LR.leaf q; exact ⟨l, .left g1, g2, g3⟩
    · obtain ⟨l, g1, g2, g3⟩ := LR.leaf q; exact ⟨l, .right g1, g2, g3⟩
/-- What is gone on with, by one of the ways. -/
abbrev GoodK (k : K) (r : RO) (e : Env) (s : Nat) (h : H) (w : World) (x : Value) (w' : World) : Prop := ∃ v h' s', Sub (k v h' s') r ∧ Good e s h w v h' s' x w'
abbrev CallOk (P : Program) (f : FuncId) (args : List V) (s : Nat) (h : H) (k : K) (r : RO) : Prop := ∀ e w xs, VRs e args xs → Sim e h w → Free e s →
  (callFunc f ⟨xs⟩).run P w = .ok (.enter f ⟨xs⟩) w ∧ Calls P f ⟨xs⟩ w (fun en w' => ∃ x, en = .returned x ∧ GoodK k r e s h w x w')
abbrev OpOkK (P : Program) (e : Env) (s : Nat) (h : H) (w : World) (a : Act) (o : Oper) (k : K) (r : RO) : Prop := Gives P (execOp a.eval o) w (GoodK k r e s h w)
theorem Gives.mono {m : Sem Next} {R R' : Value → World → Prop} (hg : Gives P m w R) (hr : ∀ x w', R x w' → R' x w') : Gives P m w R' := by
  unfold Gives at hg ⊢
  generalize m.run P w = res at *
  cases res with
  | halt x w' => exact hg
  | ok n w' =>
    cases n with
    | value x => exact hr _ _ hg
    | skip => exact hr _ _ hg
    | enter f args => exact Calls.mono hg (fun en w'' ⟨x, he, hx⟩ => ⟨x, he, hr _ _ hx⟩)
    | _ => exact hg
theorem OpOk.toK (p : OpOk P e s h w a o k r) : OpOkK P e s h w a o k r := by
  obtain ⟨v, h', s', h1, h2⟩ := p
  exact Gives.mono h2 (fun x w' hx => ⟨v, h', s', h1 ▸ .refl _, hx⟩)
structure SoundRn (P : Program) (ih : Rn) : Prop where
  wp : ∀ c t h s, (ih c t h s).good → ∀ D e a w, AR D e t a → Sim e h w → Free e s → c.wp P (LR D (ih c t h s) e s h w) a w
  loop : ∀ c t h s, (ih (.loop c) t h s).good → ∀ D e a w, AR D e t a → Sim e h w → Free e s → ∀ (b : Frame) (k : List Item) (cs : List Frame), ∃ x a' w', LR D (ih (.loop c) t h s) e s h w x a' w' ∧ Arrives P (lone (b.at a (.code c :: .inLoop c :: k)) cs w) b k cs x a' w'
def SoundPr (P : Program) (pr : Prims) : Prop := ∀ f g, pr f = some g → ∀ args h s k, (g args h s k).good → CallOk P f args s h k (g args h s k)
theorem sl_form {b o l c : Nat} {xv : Value} (hx : VR e (.sl b o l c) xv) : ∃ bv, xv = .slice bv l c := by cases hx <;> exact ⟨_, rfl⟩
theorem delE_ok {kt : TypeId} {x : V} {xv : Value} {d : TypeDesc} (hu : P.underlying kt = some d) (hx : VR e x xv) (hd : KOk P kt d x) : ∀ {l : List (V × V × Nat)} {ms : List MapEntry} {f : List (V × V × Nat) → RO} (j : Nat),
    delE P kt x l f = r → r.good → ER e l ms → ∃ es, f es = r ∧ ((KFind P kt d xv ms j none ∧ ER e es ms) ∨ ∃ i old, KFind P kt d xv ms j (some (j + i, old)) ∧ i < ms.length ∧ ER e es (ms.eraseIdx i))
  | [], _, f, j, hk, hr, .nil => ⟨_, hk, .inl ⟨.nil, .nil⟩⟩
  | (pk, pv, pn) :: l, _, f, j, hk, hr, .cons (x := pkv) (y := pvv) (es := ms) hkk hpv ht => by
    change (match keyEq P kt x pk with | some true => f l | some false => delE P kt x l (fun q => f ((pk, pv, pn) :: q)) | none => .err 83) = r at hk
    split at hk
    · rename_i heq
      obtain ⟨g1, g2⟩ := keyEq_ok hu heq hx hkk hd
      exact ⟨_, hk, .inr ⟨0, pvv, KFind.hit g1, by simp, by simpa using ht⟩⟩
    · rename_i heq
      obtain ⟨g1, g2⟩ := keyEq_ok hu heq hx hkk hd
      obtain ⟨es, h1, h2⟩ := delE_ok hu hx hd (j + 1) hk hr ht
      refine ⟨_, h1, ?_⟩
      rcases h2 with ⟨h3, h4⟩ | ⟨i, old, h3, h4, h5⟩
      · exact .inl ⟨.miss g1 h3, .cons hkk hpv h4⟩
      · refine .inr ⟨i + 1, old, ?_, by simpa using h4, ?_⟩
        · have := KFind.miss (en := ⟨pkv, pvv, pn⟩) g1 h3; rwa [show j + 1 + i = j + (i + 1) by omega] at this
        · simpa using ER.cons hkk hpv h5
    · subst hk; cases hr
theorem run_delete {at_ : Array TypeId} {mt ty kt et : TypeId} {d : TypeDesc} {n cl : Nat} {ms : List MapEntry} {xv : Value} {res : Option (Nat × Value)} (h0 : at_[0]? = some mt) (hu : P.underlying mt = some (.map kt et)) (hd : P.underlying kt = some d) (hik : ∀ b w, (Instr.checkKey b 10000 kt xv).run P w = .ok () w)
    (hw : w.heap[n]? = some (.map ⟨ms⟩ cl)) (hf : KFind P kt d xv ms 0 res) :
    (Builtin.delete_ at_ ty #[.map (some n), xv]).run P w = .ok (.tuple #[]) { w with heap := w.heap.setIfInBounds n (match res with | some (i, _) => .map ((⟨ms⟩ : Array MapEntry).eraseIdxIfInBounds i) cl | none => .map ⟨ms⟩ cl) } := by
  have hfk := hf.run (w := w) hd
  have hg : (getObj n).run P w = .ok (.map ⟨ms⟩ cl) w := MapKept.run_getObj_map hw
  have hck : ∀ b, (Instr.checkKey b 10000 kt xv).run P w = .ok () w := fun b => hik b w
  cases res with
  | none => simp [Builtin.delete_, h0, run_under hu, Result.andThen, hg, hck, hfk, MapKept.run_setObj_map _ hw]
  | some p =>
    obtain ⟨i, old⟩ := p
    simp [Builtin.delete_, h0, run_under hu, Result.andThen, hg, hck, hfk, MapKept.run_setObj_map _ hw]
theorem builtinV_ok {b : Builtin} {at_ : Array TypeId} {args : List V} {xs : List Value} {ty : TypeId} {cs : Array Bool} (hk : builtinV b at_ args P h s k = r) (hr : r.good) (hs : Sim e h w) (hf : Free e s) (hx : VRs e args xs) :
    ∃ v h' s', k v h' s' = r ∧ ∃ z w', (builtin b at_ ty cs ⟨xs⟩).run P w = .ok (.value z) w' ∧ Good e s h w v h' s' z w' := by
  unfold builtinV at hk
  split at hk
  · split at hk
    · rename_i tt u rest x y hat
      have h0 : at_[0]? = some tt := by rw [← Array.getElem?_toList, hat]; rfl
      have h1 : at_[1]? = some u := by rw [← Array.getElem?_toList, hat]; rfl
      cases hx with
      | cons hx ht => cases ht with
        | cons hy ht => cases ht with
          | nil =>
            split at hk
            · rename_i el hu
              cases hn : noInt P u with
              | true =>
                rw [hn] at hk
                simp only [cond_true] at hk
                obtain ⟨d, hd, hdn⟩ := noInt_ok hn
                split at hk
                · rename_i i hi
                  obtain ⟨v, h', s', g1, z, w', g2, g3⟩ := appendV_ok (ty := ty) hk hr hs hf hx hy h0 h1 hu hd hdn hi
                  exact ⟨v, h', s', g1, z, w', run_v g2, g3⟩
                · subst hk; cases hr
              | false =>
                rw [hn] at hk
                simp only [cond_false] at hk
                split at hk
                · rename_i kd i n hui hi
                  cases hy
                  obtain ⟨v, h', s', g1, z, w', g2, g3⟩ := appendZ_ok (ty := ty) hk hr hs hf hx h0 h1 hu hui hi
                  exact ⟨v, h', s', g1, z, w', run_v g2, g3⟩
                · subst hk; cases hr
            · subst hk; cases hr
    · subst hk; cases hr
  · split at hk
    · rename_i tt rest x hat
      have h0 : at_[0]? = some tt := by rw [← Array.getElem?_toList, hat]; rfl
      cases hx with
      | cons hx ht => cases ht with
        | nil =>
          cases hl : lenOk P tt x with
          | true =>
            rw [hl] at hk
            simp only [cond_true] at hk
            obtain ⟨n, g1, g2⟩ := lenV_ok (ty := ty) hk hr hs hx h0 hl
            exact ⟨_, h, s, g1, _, w, run_v g2, e, .int _ _, Post.refl hs hf⟩
          | false =>
            rw [hl] at hk
            simp only [cond_false] at hk
            split at hk
            · rename_i hu
              cases hx with
              | @usl b l c _ _ h1 h2 =>
                exact ⟨_, h, s, hk, .int .i64 (l : Int), w, run_v (by simp [Builtin.len_, h0, run_under hu, Result.andThen, goInt]), e, .iv (Int.ofNat_le.2 h1) (Int.ofNat_le.2 h2), Post.refl hs hf⟩
            · rename_i hu
              cases hx with
              | @xsu _ _ a0 b l c0 c h1 h2 h3 =>
                exact ⟨_, h, s, hk, .int .i64 (l : Int), w, run_v (by simp [Builtin.len_, h0, run_under hu, Result.andThen, goInt]), e, .iv (Int.natCast_nonneg _) (Int.ofNat_le.2 h2), Post.refl hs hf⟩
            · subst hk; cases hr
    · subst hk; cases hr
  · split at hk
    · rename_i tt rest x hat
      have h0 : at_[0]? = some tt := by rw [← Array.getElem?_toList, hat]; rfl
      cases hx with
      | cons hx ht => cases ht with
        | nil =>
          split at hk
          · rename_i hu
            cases hx
            refine ⟨_, h, s, hk, .int .i64 0, w, run_v ?_, e, .int _ _, Post.refl hs hf⟩
            simp [Builtin.cap_, h0, run_under hu, Result.andThen, goInt]
          · rename_i hu
            obtain ⟨bv, rfl⟩ := sl_form hx
            refine ⟨_, h, s, hk, _, w, run_v (w' := w) ?_, e, .int _ _, Post.refl hs hf⟩
            simp [Builtin.cap_, h0, run_under hu, Result.andThen, goInt]
          · subst hk; cases hr
    · subst hk; cases hr
  · split at hk
    · cases hx with
      | cons hx ht => cases ht with
        | cons hy ht => cases ht with
          | nil =>
            obtain ⟨v, z, g1, g2, g3⟩ := lext_max (P := P) (w := w) hk hr hx hy
            exact ⟨v, h, s, g1, z, w, run_v (by simpa [Builtin.max_] using g3), e, g2, Post.refl hs hf⟩
    · cases hx with
      | cons hx ht => cases ht with
        | cons hy ht => cases ht with
          | nil =>
            obtain ⟨v, z, g1, g2, g3⟩ := lext_max (P := P) (w := w) hk hr hx hy
            exact ⟨v, h, s, g1, z, w, run_v (by simpa [Builtin.max_] using g3), e, g2, Post.refl hs hf⟩
    · rename_i kd x l
      cases hx with
      | cons hx ht =>
        cases hx
        obtain ⟨v, z, g1, g2, g3⟩ := ext_max (P := P) (w := w) hk hr ht
        exact ⟨v, h, s, g1, z, w, run_v (by simpa [Builtin.max_] using g3), e, g2, Post.refl hs hf⟩
    · subst hk; cases hr
  · split at hk
    · cases hx with
      | cons hx ht => cases ht with
        | cons hy ht => cases ht with
          | nil =>
            obtain ⟨v, z, g1, g2, g3⟩ := lext_min (P := P) (w := w) hk hr hx hy
            exact ⟨v, h, s, g1, z, w, run_v (by simpa [Builtin.min_] using g3), e, g2, Post.refl hs hf⟩
    · cases hx with
      | cons hx ht => cases ht with
        | cons hy ht => cases ht with
          | nil =>
            obtain ⟨v, z, g1, g2, g3⟩ := lext_min (P := P) (w := w) hk hr hx hy
            exact ⟨v, h, s, g1, z, w, run_v (by simpa [Builtin.min_] using g3), e, g2, Post.refl hs hf⟩
    · rename_i kd x l
      cases hx with
      | cons hx ht =>
        cases hx
        obtain ⟨v, z, g1, g2, g3⟩ := ext_min (P := P) (w := w) hk hr ht
        exact ⟨v, h, s, g1, z, w, run_v (by simpa [Builtin.min_] using g3), e, g2, Post.refl hs hf⟩
    · subst hk; cases hr
  · split at hk
    · rename_i tt rest x y hat
      have h0 : at_[0]? = some tt := by rw [← Array.getElem?_toList, hat]; rfl
      cases hx with
      | cons hx ht => cases ht with
        | cons hy ht => cases ht with
          | nil =>
            split at hk
            · rename_i el hu
              split at hk
              · rename_i i hi
                obtain ⟨n, cs', ys, hk, hcs, hlen, hyl, hfc⟩ := srcCells_ok (P := P) hk hr hs hy
                obtain ⟨v, h', s', g1, z, w', g2, g3⟩ := copyTo_ok (ty := ty) (y := y) hk hr hs hf hx hcs hyl h0 hu hi rfl hlen (hfc w rfl)
                exact ⟨v, h', s', g1, z, w', run_v g2, g3⟩
              · subst hk; cases hr
            · subst hk; cases hr
    · subst hk; cases hr
  · split at hk
    · rename_i tt rest x y hat
      have h0 : at_[0]? = some tt := by rw [← Array.getElem?_toList, hat]; rfl
      cases hx with
      | cons hx ht => cases ht with
        | cons hy ht => cases ht with
          | nil =>
            split at hk
            · rename_i kt et hu
              obtain ⟨hok, hk⟩ := bif_ok hk (by simp [RO.good]) hr
              obtain ⟨d, hd, hik, hdd⟩ := keyOk_ok hok hy
              split at hk
              · rename_i b
                cases hx with
                | @map _ nn sh sz hb =>
                  split at hk
                  · rename_i es cl hbl
                    obtain ⟨hl, hsh, ms, hw, hes⟩ := map_at hs hbl hb
                    simp only at hsh hw
                    subst hsh
                    obtain ⟨es', g1, g2⟩ := delE_ok hd hy hdd 0 hk hr hes
                    rcases g2 with ⟨g3, g4⟩ | ⟨i, old, g3, g4, g5⟩
                    · exact ⟨_, _, s, g1, _, _, run_v (run_delete h0 hu hd hik hw g3), e, .tup .nil, set_post hs hf hl hb (by simp) (.map g4)⟩
                    · refine ⟨_, _, s, g1, _, _, run_v (run_delete h0 hu hd hik hw g3), e, .tup .nil, set_post hs hf hl hb (by simp) ?_⟩
                      have he : ((⟨ms⟩ : Array MapEntry).eraseIdxIfInBounds (0 + i)) = ⟨ms.eraseIdx i⟩ := by
                        apply Array.ext'
                        unfold Array.eraseIdxIfInBounds
                        rw [dif_pos (by simpa using g4)]
                        simp
                      simp only [he]
                      exact .map g5
                  · subst hk; cases hr
              · subst hk; cases hr
            · subst hk; cases hr
    · subst hk; cases hr
  · subst hk; cases hr
/-- The value does not hang on what is done with it. -/
theorem loadV_val {ty : TypeId} {b o : Nat} {f : V → RO} (hr : (loadV P ty h b o f).good) : ∃ v, ∀ g, loadV P ty h b o g = g v := by
  cases hb : h.get .gone b with
  | cells t' m =>
    have e1 : ∀ g, loadV P ty h b o g = ifAgg P ty (bif Nat.ble (Nat.add o (P.cellsOf ty)) m then g (.agg (rdCells t' (P.cellsOf ty) o)) else .err 30) (bif Nat.ble (Nat.succ o) m then g (t'.get un o) else .err 31) := fun g => by
      unfold loadV; rw [hb]
    rw [e1] at hr
    obtain ⟨d, hd, ⟨h1, h2⟩ | ⟨h1, h2⟩⟩ := ifAgg_ok rfl hr
    · have e2 : ∀ yes no : RO, ifAgg P ty yes no = yes := fun yes no => by
        unfold ifAgg; rw [hd]; cases d <;> first | rfl | cases h1
      rw [e2] at hr
      cases hc : Nat.ble (Nat.add o (P.cellsOf ty)) m with
      | false => rw [hc] at hr; cases hr
      | true => exact ⟨_, fun g => by rw [e1, e2, hc]; rfl⟩
    · have e2 : ∀ yes no : RO, ifAgg P ty yes no = no := fun yes no => by
        unfold ifAgg; rw [hd]; cases d <;> first | rfl | cases h1
      rw [e2] at hr
      cases hc : Nat.ble (Nat.succ o) m with
      | false => rw [hc] at hr; cases hr
      | true => exact ⟨_, fun g => by rw [e1, e2, hc]; rfl⟩
  | map es c => unfold loadV at hr; rw [hb] at hr; cases hr
  | iter a b c d => unfold loadV at hr; rw [hb] at hr; cases hr
  | loop a b c d => unfold loadV at hr; rw [hb] at hr; cases hr
  | gone => unfold loadV at hr; rw [hb] at hr; cases hr
theorem loadV_ok2 {ty : TypeId} {b o : Nat} {v : V} (hv : ∀ g, loadV P ty h b o g = g v) (hs : Sim e h w) {x : Loc} (hx : e b = some x) : ∃ y, VR e v y ∧ (loadVar ty ⟨x.n, x.sh + o, none⟩).run P w = .ok y w := by
  obtain ⟨v', h1, y, h2, h3⟩ := loadV_ok (P := P) (ty := ty) (b := b) (o := o) (f := fun v => .norm (.node v .nil .nil) h 0) (r := .norm (.node v .nil .nil) h 0) (hv _) trivial hs hx
  injection h1 with h1
  injection h1 with h1
  exact ⟨y, h1 ▸ h2, h3⟩
/-- The results. -/
def resOne (tm : Array Value) : ResultVar → Sem Value
  | .tmp i => pure (tm.getD i undef)
  | .cell a ty => do loadVar ty (← asAddr (tm.getD a undef))
theorem run_mapM_cons {tm : Array Value} {x : ResultVar} {l : List ResultVar} {y : Value} {ys : List Value} (h1 : (resOne tm x).run P w = .ok y w) (h2 : (l.mapM (resOne tm)).run P w = .ok ys w) : ((x :: l).mapM (resOne tm)).run P w = .ok (y :: ys) w := by
  rw [List.mapM_cons, Sem.run_bind, h1]
  simp only [Result.andThen, Sem.run_bind, h2, Sem.run_pure]
theorem resV_val : ∀ {l : List ResultVar} {f : List V → RO}, (resV P t h l f).good → ∃ vs, (∀ g, resV P t h l g = g vs) ∧ ∀ e w tm, TR e t tm → Sim e h w → ∃ xs, VRs e vs xs ∧ (l.mapM (resOne tm)).run P w = .ok xs w
  | [], f, hr => ⟨[], fun g => rfl, fun e w tm ht hs => ⟨[], .nil, rfl⟩⟩
  | .tmp i :: l, f, hr => by
    obtain ⟨vs, h1, h2⟩ := resV_val (l := l) (f := fun vs => f (t.get un i :: vs)) hr
    refine ⟨t.get un i :: vs, fun g => h1 _, fun e w tm ht hs => ?_⟩
    obtain ⟨xs, h3, h4⟩ := h2 e w tm ht hs
    exact ⟨tm.getD i undef :: xs, .cons (ht.val i) h3, run_mapM_cons rfl h4⟩
  | .cell a ty :: l, f, hr => by
    have e1 : ∀ g, resV P t h (.cell a ty :: l) g = (match t.get un a with | .ptr b o => loadV P ty h b o (fun v => resV P t h l (fun vs => g (v :: vs))) | _ => .err 121) := fun g => rfl
    rw [e1] at hr
    cases hp : t.get un a with
    | ptr b o =>
      rw [hp] at hr
      obtain ⟨v, hv⟩ := loadV_val hr
      dsimp only at hr
      rw [hv] at hr
      obtain ⟨vs, h1, h2⟩ := resV_val (l := l) (f := fun vs => f (v :: vs)) hr
      refine ⟨v :: vs, fun g => by rw [e1, hp]; dsimp only; rw [hv]; exact h1 _, fun e w tm ht hs => ?_⟩
      obtain ⟨xs, h3, h4⟩ := h2 e w tm ht hs
      have hva := ht.val a
      rw [hp] at hva
      generalize hta : tm.getD a undef = ta at hva
      cases hva with
      | ptr hb =>
        obtain ⟨y, g1, g2⟩ := loadV_ok2 hv hs hb
        simp only at g2
        refine ⟨y :: xs, .cons g1 h3, run_mapM_cons ?_ h4⟩
        simp only [resOne, Sem.run_bind, hta, asAddr, Sem.run_pure, Result.andThen, g2]
    | _ => rw [hp] at hr; cases hr
def tupX : List Value → Value
  | [x] => x
  | xs => .tuple ⟨xs⟩
theorem tup_VR {vs : List V} {xs : List Value} (hx : VRs e vs xs) : VR e (tupV vs) (tupX xs) := by
  cases hx with
  | nil => exact .tup .nil
  | cons h t => cases t with
    | nil => exact h
    | cons h2 t2 => exact .tup (.cons h (.cons h2 t2))
theorem run_results {fn : Func} {tm : Array Value} {xs : List Value} (h : (fn.results.toList.mapM (resOne tm)).run P w = .ok xs w) : (results fn tm).run P w = .ok (tupX xs) w := by
  show (do let vs ← fn.results.mapM (resOne tm); pure (if h : vs.size = 1 then vs[0] else .tuple vs) : Sem Value).run P w = _
  rw [Sem.run_bind, Array.mapM_eq_mapM_toList]
  have h2 : (List.toArray <$> fn.results.toList.mapM (resOne tm)).run P w = .ok xs.toArray w := by
    rw [← bind_pure_comp, Sem.run_bind, h]; rfl
  rw [h2]
  match xs with
  | [] => rfl
  | [x] => rfl
  | x :: y :: l => simp [Result.andThen, tupX]
end Go.Ev
namespace Go.Ev
variable {D : List Deferred}
variable {P : Program} {pr : Prims} {ih : Rn} {e : Env} {t : T V} {h : H} {s : Nat} {w : World} {a : Act} {r : RO} {k : K} {o : Oper}
theorem enter_AR {args : List V} {xs : List Value} {n : Nat} (hx : VRs e args xs) (hn : args.length ≤ n) :
    AR [] e (T.puts args 0 (T.mk un (Nat.succ (Nat.log2 (Nat.succ n))) n)) { tmps := (⟨xs⟩ : Array Value) ++ Array.replicate (n - (⟨xs⟩ : Array Value).size) undef, defers := [] } := by
  have hl := hx.length
  have hlog : n < 2 ^ (Nat.succ (Nat.log2 (Nat.succ n))) := by
    have := @Nat.lt_log2_self (n + 1)
    rw [show Nat.succ n = n + 1 from rfl]; omega
  have hhas : ∀ i, (T.mk un (Nat.succ (Nat.log2 (Nat.succ n))) n).has i = true ↔ i < n := fun i => T.has_mk un _ n i hlog
  refine ⟨⟨fun i => ?_, fun i => ?_⟩, rfl⟩
  · rw [T.has_puts, hhas]; simp; omega
  · rw [T.get_puts un args 0 i _ (fun j hj => by rw [Nat.zero_add]; exact (hhas j).2 (by omega)), T.get_mk]
    by_cases hi : i < args.length
    · rw [if_pos (by omega)]
      obtain ⟨y, g1, g2⟩ := hx.get un i hi
      simp only [Nat.sub_zero]
      have : ((⟨xs⟩ : Array Value) ++ Array.replicate (n - (⟨xs⟩ : Array Value).size) undef).getD i undef = y := by
        rw [Array.getD_eq_getD_getElem?, Array.getElem?_append_left (by simp; omega)]
        simp [g1]
      rw [this]; exact g2
    · rw [if_neg (by omega)]
      have : ((⟨xs⟩ : Array Value) ++ Array.replicate (n - (⟨xs⟩ : Array Value).size) undef).getD i undef = undef := by
        rw [Array.getD_eq_getD_getElem?, Array.getElem?_append_right (by simp; omega), Array.getElem?_replicate]
        split <;> rfl
      rw [this]; exact undef_VR
theorem fnOf_ok {f : Nat} {c : Code} {n : Nat} {rs : List ResultVar} (h : fnOf P f = .fn c n rs) : ∃ fn, P.funcs[f]? = some fn ∧ fn.body = some c ∧ fn.ntmps = n ∧ fn.results.toList = rs ∧ ∀ xs w, (callFunc f xs).run P w = .ok (.enter f xs) w := by
  unfold fnOf at h
  split at h
  · rename_i fn hfn
    cases hn : (fn.name == "runtime.NumGoroutine") with
    | true => rw [hn] at h; cases h
    | false =>
      rw [hn] at h
      simp only [cond_false] at h
      split at h
      · rename_i c' hb
        injection h with h1 h2 h3
        subst h1 h2 h3
        refine ⟨fn, hfn, hb, rfl, rfl, fun xs w => ?_⟩
        have hn' : ¬ (fn.name = "runtime.NumGoroutine") := by
          intro h0
          rw [h0] at hn
          simp at hn
        simp [callFunc, Sem.run, hfn, hn', hb, program, Bind.bind, Sem.bind, Pure.pure]
      · cases h
  · cases h
theorem bnd_end {f g : T V → H → Nat → RO} {n : Nat} {q : RO} (hr : (q.bnd f (fun _ _ _ _ => .err n) g).good) {x : Exit} {a' : Act} {w' : World} (hq : LR D q e s h w x a' w') :
    ∃ t' h' s', ((x = .normal ∧ Sub (f t' h' s') (q.bnd f (fun _ _ _ _ => .err n) g)) ∨ (x = .ret ∧ Sub (g t' h' s') (q.bnd f (fun _ _ _ _ => .err n) g))) ∧ ∃ e', AR D e' t' a' ∧ Post e s h w e' s' h' w' := by
  obtain ⟨l, g1, g2, g3⟩ := hq.leaf
  have hs := g1.bnd f (fun _ _ _ _ => .err n) g
  cases l with
  | norm t' h' s' => exact ⟨t', h', s', .inl ⟨g3.1, hs⟩, g3.2⟩
  | ret t' h' s' => exact ⟨t', h', s', .inr ⟨g3.1, hs⟩, g3.2⟩
  | exit _ _ _ _ => exact (hs.good hr).elim
  | err _ => exact g3.elim
  | or _ _ => exact g2.elim
theorem callV_ok {f : Nat} {args : List V} (hk : callV f args P pr ih h s k = r) (hr : r.good) (hih : SoundRn P ih) (hpr : SoundPr P pr) : CallOk P f args s h k r := by
  unfold callV at hk
  split at hk
  · rename_i g hg
    subst hk
    exact hpr f g hg args h s k hr
  · split at hk
    · rename_i c n rs hfn
      obtain ⟨fn, g1, g2, g3, g4, g5⟩ := fnOf_ok hfn
      obtain ⟨hn, hk⟩ := bif_ok hk (by simp [RO.good]) hr
      have hn : args.length ≤ n := by rw [← len_eq]; exact Nat.le_of_ble_eq_true hn
      subst hk
      have body := hih.wp c (T.puts args 0 (T.mk un (Nat.succ (Nat.log2 (Nat.succ n))) n)) h s (RO.good_bnd hr)
      intro e w xs hx hs hf
      refine ⟨g5 _ _, calls_of_wp g1 g2 ?_⟩
      rw [g3]
      refine wp_mono (body [] e _ w (enter_AR hx hn) hs hf) (fun x a' w' hq => ?_)
      obtain ⟨t', h', s', hx', e', ha, hp⟩ := bnd_end hr hq
      rcases hx' with ⟨rfl, hsub⟩ | ⟨rfl, hsub⟩
      all_goals
        have hgood := hsub.good hr
        change (resV P t' h' rs (fun vs => k (tupV vs) h' s')).good at hgood
        change Sub (resV P t' h' rs (fun vs => k (tupV vs) h' s')) _ at hsub
        obtain ⟨vs, k1, k2⟩ := resV_val hgood
        rw [k1] at hsub
        obtain ⟨ys, m1, m2⟩ := k2 e' w' a'.tmps ha.tr hp.sim
        exact ⟨ha.nodef, _, run_results (by rw [g4]; exact m2), _, rfl, tupV vs, h', s', hsub, e', tup_VR m1, hp⟩
    · subst hk; cases hr
theorem run_callMethod {u : TypeId} {nm : String} {f : Nat} (hm : methV P u nm = some f) (x : Value) (args : Array Value) (hg : (callFunc f (#[x] ++ args)).run P w = .ok (.enter f (#[x] ++ args)) w) :
    (callMethod (.iface u x) nm args).run P w = .ok (.enter f (#[x] ++ args)) w := by
  have hn := run_method' (P := P) (w := w) (n := P.types.size + 99) hm x
  simp only [Nat.add_assoc, Nat.reduceAdd] at hn
  simp [callMethod, Made.depth, hn, Result.andThen]
  simpa using hg
/-- What the evaluator promises of an operation, before it knows where it is. -/
theorem oCall_ok {c : Call} (hk : oCall c P pr ih t h s k = r) (hr : r.good) (hih : SoundRn P ih) (hpr : SoundPr P pr) (ha : AR D e t a) (hs : Sim e h w) (hf : Free e s) (ho : o.op = .call c) : OpOkK P e s h w a o k r := by
  obtain ⟨args, hk, hargs⟩ := opnds_ok (a := a) hk hr ha
  have hmap : (c.args.map a.eval) = ⟨c.args.toList.map a.eval⟩ := by apply Array.ext'; simp
  have fin : ∀ {f : Nat} {xs : List Value}, (execOp a.eval o).run P w = .ok (.enter f ⟨xs⟩) w → Calls P f ⟨xs⟩ w (fun en w' => ∃ x, en = .returned x ∧ GoodK k r e s h w x w') → OpOkK P e s h w a o k r := fun h1 h2 => by
    unfold OpOkK Gives
    rw [h1]
    exact h2
  split at hk
  · rename_i b hcal
    obtain ⟨v, h', s', g1, z, w', g2, g3⟩ := builtinV_ok (ty := o.type) (cs := c.args.map fun | .const _ => true | _ => false) hk hr hs hf hargs
    refine OpOk.toK ⟨v, h', s', g1, gives_value (x := z) (w' := w') ?_ g3⟩
    simp only [execOp, ho, resolve, hcal, Sem.run_bind, Sem.run_pure, Result.andThen, invoke, hmap]
    exact g2
  · rename_i x hcal
    obtain ⟨fv, hk, hfv⟩ := opnd_ok (a := a) hk hr ha
    generalize hc : a.eval x = cv at hfv
    split at hk
    · rename_i f caps
      cases hfv with
      | fn hcaps =>
        rename_i cs
        obtain ⟨g3, g4⟩ := callV_ok hk hr hih hpr e w _ (hargs.append hcaps) hs hf
        refine fin ?_ g4
        simp only [execOp, ho, resolve, hcal, hc, Deferred.ofValue, Sem.run_bind, Sem.run_pure, Result.andThen, invoke, hmap]
        have e1 : (#[] : Array Value) ++ (⟨c.args.toList.map a.eval⟩ : Array Value) ++ (⟨cs⟩ : Array Value) = ⟨c.args.toList.map a.eval ++ cs⟩ := by apply Array.ext'; simp
        rw [e1]
        exact g3
    · rename_i f y
      cases hfv with
      | bfn hv =>
        rename_i x1
        obtain ⟨g3, g4⟩ := callV_ok hk hr hih hpr e w _ (VRs.cons hv hargs) hs hf
        refine fin ?_ g4
        have e0 : (⟨x1 :: List.map a.eval c.args.toList⟩ : Array Value) = (⟨[x1]⟩ : Array Value) ++ (⟨List.map a.eval c.args.toList⟩ : Array Value) := by apply Array.ext'; simp
        rw [e0] at g3 ⊢
        simp only [execOp, ho, resolve, hcal, hc, Deferred.ofValue, Sem.run_bind, Sem.run_pure, Result.andThen, invoke, hmap]
        simpa using g3
    · rename_i nm u y
      cases hm : methV P u nm with
      | none => rw [hm] at hk; subst hk; cases hr
      | some f =>
        rw [hm] at hk
        cases hfv with
        | mfn hv => cases hv with
          | ifc hv =>
            rename_i x1
            obtain ⟨g3, g4⟩ := callV_ok hk hr hih hpr e w _ (VRs.cons hv hargs) hs hf
            refine fin ?_ g4
            have e0 : (⟨x1 :: List.map a.eval c.args.toList⟩ : Array Value) = #[x1] ++ (⟨List.map a.eval c.args.toList⟩ : Array Value) := by apply Array.ext'; simp
            rw [e0] at g3 ⊢
            have g5 := run_callMethod (P := P) (w := w) hm x1 _ g3
            simp only [execOp, ho, resolve, hcal, hc, Deferred.ofValue, Sem.run_bind, Sem.run_pure, Result.andThen, invoke, hmap]
            have e1 : ((⟨[Value.iface u x1]⟩ : Array Value) ++ (⟨c.args.toList.map a.eval⟩ : Array Value))[0]? = some (Value.iface u x1) := by simp
            have e2 : ((⟨[Value.iface u x1]⟩ : Array Value) ++ (⟨c.args.toList.map a.eval⟩ : Array Value)).extract 1 ((⟨[Value.iface u x1]⟩ : Array Value) ++ (⟨c.args.toList.map a.eval⟩ : Array Value)).size = ⟨c.args.toList.map a.eval⟩ := by apply Array.ext'; simp; try exact List.take_of_length_le (by simp)
            rw [e1]
            simp only [e2]
            exact g5
    · subst hk; cases hr
  · rename_i x nm hcal
    obtain ⟨fv, hk, hfv⟩ := opnd_ok (a := a) hk hr ha
    generalize hc : a.eval x = cv at hfv
    split at hk
    · rename_i u y
      cases hm : methV P u nm with
      | none => rw [hm] at hk; subst hk; cases hr
      | some f =>
        rw [hm] at hk
        cases hfv with
        | ifc hv =>
          rename_i x1
          obtain ⟨g3, g4⟩ := callV_ok hk hr hih hpr e w _ (VRs.cons hv hargs) hs hf
          refine fin ?_ g4
          have e0 : (⟨x1 :: List.map a.eval c.args.toList⟩ : Array Value) = #[x1] ++ (⟨List.map a.eval c.args.toList⟩ : Array Value) := by apply Array.ext'; simp
          rw [e0] at g3 ⊢
          have g5 := run_callMethod (P := P) (w := w) hm x1 _ g3
          simp only [execOp, ho, resolve, hcal, hc, Sem.run_bind, Sem.run_pure, Result.andThen, invoke, hmap]
          have e1 : (#[Value.iface u x1] ++ (⟨c.args.toList.map a.eval⟩ : Array Value))[0]? = some (Value.iface u x1) := by simp
          have e2 : (#[Value.iface u x1] ++ (⟨c.args.toList.map a.eval⟩ : Array Value)).extract 1 (#[Value.iface u x1] ++ (⟨c.args.toList.map a.eval⟩ : Array Value)).size = ⟨c.args.toList.map a.eval⟩ := by apply Array.ext'; simp; try exact List.take_of_length_le (by simp)
          rw [e1]
          simp only [e2]
          exact g5
    · subst hk; cases hr
theorem opF_ok (hk : opF o.op P pr ih t h s k = r) (hr : r.good) (hih : SoundRn P ih) (hpr : SoundPr P pr) (ha : AR D e t a) (hs : Sim e h w) (hf : Free e s) : OpOkK P e s h w a o k r := by
  cases ho : o.op with
  | move x => rw [ho] at hk; exact OpOk.toK ((oMove_pure (pr := pr) (ih := ih) hk hr ha hs (.inl ho)).ok hs hf)
  | assign x => rw [ho] at hk; exact OpOk.toK ((oMove_pure (pr := pr) (ih := ih) hk hr ha hs (.inr ho)).ok hs hf)
  | pick c x y => rw [ho] at hk; exact OpOk.toK ((oPick_pure (pr := pr) (ih := ih) hk hr ha hs ho).ok hs hf)
  | alloc t0 => rw [ho] at hk; exact OpOk.toK (oAlloc_ok (pr := pr) (ih := ih) hk hr ha hs hf ho)
  | box t0 x => rw [ho] at hk; exact OpOk.toK (oBox_ok (pr := pr) (ih := ih) hk hr ha hs hf ho)
  | build t0 ps => rw [ho] at hk; exact OpOk.toK ((oBuild_pure (pr := pr) (ih := ih) hk hr ha hs ho).ok hs hf)
  | buildSlice t0 n ps => rw [ho] at hk; exact OpOk.toK (oBuildSlice_ok (pr := pr) (ih := ih) hk hr ha hs hf ho)
  | load t0 x => rw [ho] at hk; exact OpOk.toK ((oLoad_pure (pr := pr) (ih := ih) hk hr ha hs ho).ok hs hf)
  | store t0 x y => rw [ho] at hk; exact OpOk.toK (oStore_ok (pr := pr) (ih := ih) hk hr ha hs hf ho)
  | nilCheck x => rw [ho] at hk; exact OpOk.toK ((oNilCheck_pure (pr := pr) (ih := ih) hk hr ha hs ho).ok hs hf)
  | binOp op t0 x y u => rw [ho] at hk; exact OpOk.toK ((oBin_pure (pr := pr) (ih := ih) hk hr ha hs ho).ok hs hf)
  | unOp op t0 x => rw [ho] at hk; exact OpOk.toK ((oUn_pure (pr := pr) (ih := ih) hk hr ha hs ho).ok hs hf)
  | convert t0 t1 x =>
    rw [ho] at hk
    change (bif Nat.beq t0 t1 then oMark t0 x else oConvert t0 t1 x) P pr ih t h s k = r at hk
    cases hq : Nat.beq t0 t1 with
    | true => rw [hq] at hk; exact OpOk.toK (oMark_ok (pr := pr) (ih := ih) hk hr ha hs hf ho (Nat.eq_of_beq_eq_true hq))
    | false => rw [hq] at hk; exact OpOk.toK ((oConvert_pure (pr := pr) (ih := ih) hk hr ha hs ho).ok hs hf)
  | makeInterface t0 x => rw [ho] at hk; exact OpOk.toK ((oMakeIface_pure (pr := pr) (ih := ih) hk hr ha hs ho).ok hs hf)
  | makeFunc f l m => rw [ho] at hk; exact OpOk.toK ((oMakeFunc_pure (pr := pr) (ih := ih) hk hr ha hs ho).ok hs hf)
  | makeMap t0 x => rw [ho] at hk; exact OpOk.toK (oMakeMap_ok (pr := pr) (ih := ih) hk hr ha hs hf ho)
  | makeSlice t0 x y => rw [ho] at hk; exact OpOk.toK (oMakeSlice_ok (pr := pr) (ih := ih) hk hr ha hs hf ho)
  | slice t0 x l m n => rw [ho] at hk; exact OpOk.toK ((oSlice_pure (pr := pr) (ih := ih) hk hr ha hs ho).ok hs hf)
  | fieldAddr t0 x i => rw [ho] at hk; exact OpOk.toK ((oFieldAddr_pure (pr := pr) (ih := ih) hk hr ha hs ho).ok hs hf)
  | field t0 x i => rw [ho] at hk; exact OpOk.toK ((oField_pure (pr := pr) (ih := ih) hk hr ha hs ho).ok hs hf)
  | indexAddr t0 x i => rw [ho] at hk; exact OpOk.toK ((oIndexAddr_pure (pr := pr) (ih := ih) hk hr ha hs ho).ok hs hf)
  | index t0 x i => rw [ho] at hk; exact OpOk.toK ((oIndex_pure (pr := pr) (ih := ih) hk hr ha hs ho).ok hs hf)
  | lookup t0 x i b => rw [ho] at hk; exact OpOk.toK ((oLookup_pure (pr := pr) (ih := ih) hk hr ha hs ho).ok hs hf)
  | mapUpdate t0 m i x => rw [ho] at hk; exact OpOk.toK (oMapUpdate_ok (pr := pr) (ih := ih) hk hr ha hs hf (.inl ho))
  | range t0 x => rw [ho] at hk; exact OpOk.toK (oRange_ok (pr := pr) (ih := ih) hk hr ha hs hf ho)
  | next x b => rw [ho] at hk; exact OpOk.toK (oNext_ok (pr := pr) (ih := ih) hk hr ha hs hf ho)
  | entry x => rw [ho] at hk; exact OpOk.toK ((oEntry_pure (pr := pr) (ih := ih) hk hr ha hs ho).ok hs hf)
  | extract x i => rw [ho] at hk; exact OpOk.toK ((oExtract_pure (pr := pr) (ih := ih) hk hr ha hs ho).ok hs hf)
  | call c => rw [ho] at hk; exact oCall_ok (pr := pr) (ih := ih) hk hr hih hpr ha hs hf ho
  | _ => rw [ho] at hk; change RO.err 130 = r at hk; subst hk; cases hr
end Go.Ev
