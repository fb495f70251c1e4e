/- An evaluator of the model's code: regions in its quick form. An evaluator of the model's code: closed examples. An evaluator of the model's code: functions that are known to return true, as operations. An evaluator of the model's code: its quick form is sound. -/
import Derived.Test.YtnklmadmenkdoaaGreatQEvHb
import Derived.Test.YtnklmadmenkdoaaGreatQEvZd
import Derived.Test.YtnklmadmenkdoaaGreatQEvZe
import Derived.Below
set_option linter.unusedVariables false
set_option linter.unusedSimpArgs false
namespace Go.Ev
variable {D : List Deferred}
variable {P : Program} {pr : Prims} {ih : Rn} {e : Env} {t : T V} {h : H} {s : Nat} {w : World} {a : Act} {r : RO} {k : K} {o : Oper}
theorem dstC_ok {dst : Option Tmp} {d : T V → V → T V} (hd : dstC dst = .mk d) (t : T V) (v : V) : d t v = putT dst t v := by
  cases dst with
  | none => injection hd with hd; subst hd; rfl
  | some i => exact pathS_set 64 i d hd t v
theorem wantC_no {all : List Oper} {g : Option (Nat × Bool)} (h : wantC all g = .no) (t : T V) : want all t g = true := by
  cases g with
  | none => rfl
  | some p =>
    obtain ⟨j, b⟩ := p
    simp only [wantC] at h
    split at h
    · split at h
      · rename_i d _
        cases hp : pathG un 64 d <;> rw [hp] at h <;> cases h
      · cases h
    · cases h
theorem wantC_mk {all : List Oper} {g : Option (Nat × Bool)} {q : T V → Bool} (h : wantC all g = .mk q) (t : T V) : q t = want all t g := by
  cases g with
  | none => cases h
  | some p =>
    obtain ⟨j, b⟩ := p
    simp only [wantC] at h
    cases hd : all.drop j with
    | nil => rw [hd] at h; injection h with h; subst h; simp [want, hd]
    | cons o rest =>
      rw [hd] at h
      dsimp only at h
      cases ho : o.dst with
      | none => rw [ho] at h; injection h with h; subst h; simp [want, hd, ho]
      | some d =>
        rw [ho] at h
        dsimp only at h
        cases hp : pathG un 64 d with
        | no => rw [hp] at h; injection h with h; subst h; rfl
        | mk g =>
          rw [hp] at h
          injection h with h; subst h
          show wB b (g t) = _
          rw [pathG_get un 64 d g hp t]
          simp only [want, hd, ho]
          generalize T.get un t d = v
          cases b <;> cases v <;> first | rfl | skip
          all_goals (rename_i c; cases c <;> rfl)
theorem appR_good {b : Bx RC} (hr : (appR b ih t h s).good) : ∃ q, b = .mk q ∧ appR b ih t h s = q ih t h s := by
  cases b with
  | no => exact hr.elim
  | mk q => exact ⟨q, rfl, rfl⟩
noncomputable abbrev dynT (P : Program) (pr : Prims) (o : Oper) : OC := fun ih t h s k => opers1 (yieldV P pr ih) o P pr ih t h s k
theorem regC_ok {all : List Oper} (hih : SoundRn P ih) (hpr : SoundPr P pr) : ∀ (l pre : List Oper), all = pre ++ l → ∀ q, regC P pr all l = .mk q → ∀ t h s, (q ih t h s).good → ∀ e a w, AR D e t a → Sim e h w → Free e s →
    ∀ Q : Exit → Act → World → Prop, (∀ x a' w', LR D (q ih t h s) e s h w x a' w' → Q x a' w') → wpOpsIn Fence.wide 0 P all.toArray Q (List.range' pre.length l.length) a w
  | [], pre, hall, q, hq, t, h, s, hr, e, a, w, ha, hs, hf, Q, hQ => by
    injection hq with hq; subst hq
    exact hQ _ _ _ ⟨rfl, e, ha, Post.refl hs hf⟩
  | o :: l, pre, hall, q, hq, t, h, s, hr, e, a, w, ha, hs, hf, Q, hQ => by
    have hget : all.toArray[pre.length]? = some o := by rw [hall]; simp
    have hall' : all = (pre ++ [o]) ++ l := by rw [hall]; simp
    have e0 : regC P pr all (o :: l) = Bx.rec (motive := fun _ => Bx RC) .no (fun d => Bx.rec (motive := fun _ => Bx RC) .no (fun f =>
      Bx.rec (motive := fun _ => Bx RC) (.mk (fun ih t h s => f ih t h s (fun v h s => appR (regC P pr all l) ih (d t v) h s)))
        (fun w => .mk (fun ih t h s => Bool.rec (motive := fun _ => RO) (appR (regC P pr all l) ih (d t un) h s) (f ih t h s (fun v h s => appR (regC P pr all l) ih (d t v) h s)) (w t))) (wantC all o.guard)) (opC (dynT P pr o) P pr o)) (dstC o.dst) := rfl
    rw [e0] at hq
    have hrange : List.range' pre.length (o :: l).length = pre.length :: List.range' (pre ++ [o]).length l.length := by
      simp [List.range'_succ]
    rw [hrange]
    unfold wpOpsIn
    rw [hget]
    simp only
    rw [want_ok (all := all) ha.tr]
    cases hd : dstC o.dst with
    | no => rw [hd] at hq; cases hq
    | mk d =>
      rw [hd] at hq
      cases hop : opC (dynT P pr o) P pr o with
      | no => rw [hop] at hq; cases hq
      | mk f =>
        rw [hop] at hq
        have act : (f ih t h s (fun v h s => appR (regC P pr all l) ih (d t v) h s)).good → (∀ x a' w', LR D (f ih t h s (fun v h s => appR (regC P pr all l) ih (d t v) h s)) e s h w x a' w' → Q x a' w') → o.wpIn Fence.wide 0 P a w (wpOpsIn Fence.wide 0 P all.toArray Q (List.range' (pre ++ [o]).length l.length)) Q := fun hr hQ => by
          have he := (opC_ok (yl := yieldV P pr ih) (ih := ih) (t := t) (h := h) (s := s) (k := fun v h s => appR (regC P pr all l) ih (d t v) h s) hop (fun _ _ _ _ => .refl _)).good hr
          refine opers1_ok (o := o) FW.wide (yieldV_ok hih hpr) hih hpr (.inl rfl) he.symm hr ha hs hf _ _ (fun x w' hx => ?_)
          obtain ⟨v, h', s', hsub, e', hv, hp⟩ := hx
          have hr' := hsub.good hr
          dsimp only at hsub hr'
          obtain ⟨q', hq', hq2⟩ := appR_good hr'
          rw [hq2, dstC_ok hd] at hsub hr'
          exact regC_ok hih hpr l (pre ++ [o]) hall' q' hq' (putT o.dst t v) h' s' hr' e' (a.put o.dst x) w' ((ha.mono hp.le).put hv) hp.sim hp.free Q (fun x a' w' q => hQ _ _ _ (LR.sub hsub (LR.trans hp q)))
        cases hw : wantC all o.guard with
        | no =>
          rw [hw] at hq
          injection hq with hq; subst hq
          rw [wantC_no hw t]
          exact act hr hQ
        | mk wq =>
          rw [hw] at hq
          injection hq with hq; subst hq
          rw [← wantC_mk hw t]
          cases hwt : wq t with
          | true =>
            dsimp only at hr hQ
            rw [hwt] at hr hQ
            exact act hr hQ
          | false =>
            dsimp only at hr hQ
            rw [hwt] at hr hQ
            simp only [if_false, Bool.false_eq_true] at hr hQ ⊢
            obtain ⟨q', hq', hq2⟩ := appR_good hr
            rw [hq2, dstC_ok hd] at hr hQ
            exact ⟨fun f _ => trivial, regC_ok hih hpr l (pre ++ [o]) hall' q' hq' (putT o.dst t un) h s hr e (a.put o.dst undef) w (ha.put undef_VR) hs hf Q hQ⟩
/-- The text's order. -/
theorem regionC_ok {id : Nat} {ops : Array Oper} {q : RC} (hih : SoundRn P ih) (hpr : SoundPr P pr) (hq : regC P pr ops.toList ops.toList = .mk q) (hr : (q ih t h s).good) (ha : AR D e t a) (hs : Sim e h w) (hf : Free e s) :
    (Code.region id ops false).wp P (LR D (q ih t h s) e s h w) a w := by
  have := regC_ok (all := ops.toList) hih hpr ops.toList [] rfl q hq t h s hr e a w ha hs hf _ (fun _ _ _ q => q)
  exact wpIn_wide.1 (wpIn_region (n := 0) (by simpa [List.range_eq_range'] using this))
/-! Regions that draw their order. -/
theorem opnds_val : ∀ {l : List Operand} {F : List V → RO}, (opnds t l F).good → ∃ vs, ∀ K, opnds t l K = K vs
  | [], F, hr => ⟨[], fun _ => rfl⟩
  | x :: l, F, hr => by
    change (opnd t x (fun v => opnds t l (fun vs => F (v :: vs)))).good at hr
    obtain ⟨v, hv, _⟩ := opnd_val hr
    rw [hv] at hr
    obtain ⟨vs, hvs⟩ := opnds_val hr
    refine ⟨v :: vs, fun K => ?_⟩
    show opnd t x (fun v => opnds t l (fun vs => K (v :: vs))) = _
    rw [hv, hvs]
theorem opnd_valE {x : Operand} {F : V → RO} {r : RO} (hk : opnd t x F = r) (hr : r.good) : ∃ v, ∀ K, opnd t x K = K v := by
  subst hk
  obtain ⟨v, hv, _⟩ := opnd_val hr
  exact ⟨v, hv⟩
theorem opnds_valE {l : List Operand} {F : List V → RO} {r : RO} (hk : opnds t l F = r) (hr : r.good) : ∃ vs, ∀ K, opnds t l K = K vs := by
  subst hk
  exact opnds_val hr
theorem opers1_norm {t' : T V} {h' : H} {s' : Nat} (hk : opers1 noYl o P pr ih t h s k = .norm t' h' s') : opF o.op P pr ih t h s k = .norm t' h' s' := by
  unfold opers1 at hk
  split at hk
  · rename_i op ty x y yt ho
    obtain ⟨v, hv⟩ := opnd_valE hk trivial
    rw [hv] at hk
    obtain ⟨u, hu⟩ := opnd_valE hk trivial
    rw [hu] at hk
    rw [ho]
    show opnd t x (fun v => opnd t y (fun u => vbin P op ty (isC x y) v u (fun r => k r h s))) = _
    rw [hv, hu]
    cases hub : ubin op v u with
    | true => rw [hub] at hk; cases hk
    | false => rw [hub] at hk; exact hk
  · rename_i c ho
    rw [ho]
    split at hk
    · rename_i x hcal
      obtain ⟨v, hv⟩ := opnd_valE hk trivial
      rw [hv] at hk
      split at hk
      · obtain ⟨vs, hvs⟩ := opnds_valE hk trivial
        rw [hvs] at hk
        cases hk
      · exact hk
    · exact hk
  · exact hk
theorem nrm_good {r : RO} {c : V → H → Nat → RO} (hr : (nrm r c).good) : ∃ t' h' s', r = .norm t' h' s' ∧ nrm r c = c (t'.get un 0) h' s' := by
  cases r with
  | norm t' h' s' => cases t' with
    | nil => exact hr.elim
    | node v l r => exact ⟨_, h', s', rfl, rfl⟩
  | _ => exact hr.elim
theorem nrmB_true {r : RO} {c : V → Bool} (hr : nrmB r c = true) : ∃ t' h' s', r = .norm t' h' s' ∧ c (t'.get un 0) = true := by
  cases r with
  | norm t' h' s' => cases t' with
    | nil => cases hr
    | node v l r => exact ⟨_, h', s', rfl, hr⟩
  | _ => cases hr
/-- A function that does what an operation does. -/
def FOk (P : Program) (pr : Prims) (ih : Rn) (f : OC) (op : Op) : Prop := ∀ t h s k t' h' s', f ih t h s k = .norm t' h' s' → opF op P pr ih t h s k = .norm t' h' s'
theorem opC_FOk {f : OC} (hf : opC (fun ih t h s k => opers1 noYl o P pr ih t h s k) P pr o = .mk f) : FOk P pr ih f o.op := fun t h s k t' h' s' hn => by
  have := (opC_ok (yl := noYl) (ih := ih) (t := t) (h := h) (s := s) (k := k) hf (fun _ _ _ _ => .refl _)).good (by rw [hn]; trivial)
  exact opers1_norm (this ▸ hn)
theorem histC_ok {f : OC} {op : Op} (hf : FOk P pr ih f op) {v : V} {m : Nat} : ∀ {l : List HI}, histC f t v m ih l = true → histOk op t v m P pr ih l = true
  | [], _ => rfl
  | x :: l, h => by
    change (bif bitB m x.j then histC f t v m ih l else (bif nrmB (f ih t x.g 0 kid0) (fun u => veqB u v) then histC f t v m ih l else false)) = true at h
    show (bif bitB m x.j then histOk op t v m P pr ih l else (bif again op t v x.g P pr ih then histOk op t v m P pr ih l else false)) = true
    cases hb : bitB m x.j with
    | true => rw [hb] at h; exact histC_ok hf h
    | false =>
      rw [hb] at h
      simp only [cond_false] at h ⊢
      cases hn : nrmB (f ih t x.g 0 kid0) (fun u => veqB u v) with
      | false => rw [hn] at h; cases h
      | true =>
        rw [hn] at h
        obtain ⟨t', h', s', g1, g2⟩ := nrmB_true hn
        have : again op t v x.g P pr ih = true := by unfold again; rw [hf _ _ _ _ _ _ _ g1]; exact g2
        rw [this]
        exact histC_ok hf h
/-- The two lists of what is still to be looked at. -/
inductive ObR (P : Program) (pr : Prims) (ih : Rn) : List OBC → List OB → Prop where
  | nil : ObR P pr ih [] []
  | cons {j f o t v lc l} (hf : FOk P pr ih f o) (hl : ObR P pr ih lc l) : ObR P pr ih (⟨j, f, t, v⟩ :: lc) (⟨j, o, t, v⟩ :: l)
theorem oblC_ok {g : H} {m : Nat} : ∀ {lc : List OBC} {l : List OB}, ObR P pr ih lc l → oblC g m ih lc = true → oblOk g m P pr ih l = true
  | _, _, .nil, _ => rfl
  | _, _, .cons (j := j) (f := f) (o := op) (t := t) (v := v) (lc := lc) (l := l) hf hl, h => by
    change (bif bitB m j then oblC g m ih lc else (bif nrmB (f ih t g 0 kid0) (fun u => veqB u v) then oblC g m ih lc else false)) = true at h
    show (bif bitB m j then oblOk g m P pr ih l else (bif again op t v g P pr ih then oblOk g m P pr ih l else false)) = true
    cases hb : bitB m j with
    | true => rw [hb] at h; exact oblC_ok hl h
    | false =>
      rw [hb] at h
      simp only [cond_false] at h ⊢
      cases hn : nrmB (f ih t g 0 kid0) (fun u => veqB u v) with
      | false => rw [hn] at h; cases h
      | true =>
        rw [hn] at h
        obtain ⟨t', h', s', g1, g2⟩ := nrmB_true hn
        have : again op t v g P pr ih = true := by unfold again; rw [hf _ _ _ _ _ _ _ g1]; exact g2
        rw [this]
        exact oblC_ok hl h
theorem bif_good {c : Bool} {x : RO} {n : Nat} (h : (bif c then x else .err n).good) : c = true := by
  cases c with
  | true => rfl
  | false => exact h.elim
theorem dpC_eq {all : List Oper} {mks : List Nat} {lim : Nat} : ∀ (l : List Oper) (j : Nat) (t : T V) (g : H) (s q : Nat) (al : List AL) (hi : List HI) (obC : List OBC) (ob : List OB), ObR P pr ih obC ob →
    (appD (dpC P pr all mks l j) lim ih t g s q al hi obC).good → appD (dpC P pr all mks l j) lim ih t g s q al hi obC = dpass all mks lim P pr ih l j t g s q al hi ob
  | [], j, t, g, s, q, al, hi, obC, ob, hR, hr => rfl
  | o :: l, j, t, g, s, q, al, hi, obC, ob, hR, hr => by
    have e0 : dpC P pr all mks (o :: l) j = Bx.rec (motive := fun _ => Bx DC) .no (fun d => Bx.rec (motive := fun _ => Bx DC) .no (fun f =>
      Bx.rec (motive := fun _ => Bx DC) (dcls (cls o.op) j (nthN mks j) f d (dpC P pr all mks l (Nat.succ j)))
        (fun w => Bx.rec (motive := fun _ => Bx DC) .no (fun q0 => .mk (fun lim ih t g s q al hi ob => Bool.rec (motive := fun _ => RO) (appD (dpC P pr all mks l (Nat.succ j)) lim ih (d t un) g s q al hi ob) (q0 lim ih t g s q al hi ob) (w t))) (dcls (cls o.op) j (nthN mks j) f d (dpC P pr all mks l (Nat.succ j)))) (wantC all o.guard)) (opC (fun ih t h s k => opers1 noYl o P pr ih t h s k) P pr o)) (dstC o.dst) := rfl
    have e1 : dpass all mks lim P pr ih (o :: l) j t g s q al hi ob = bif want all t o.guard then
        dsel (cls o.op)
          (match opF o.op P pr ih t E0 0 kid0 with
            | .norm t' _ _ => dpass all mks lim P pr ih l (Nat.succ j) (putT o.dst t (t'.get un 0)) g s q al hi ob
            | .err n => .err n
            | _ => .err 162)
          (match opF o.op P pr ih t g 0 kid0 with
            | .norm t' _ _ => bif histOk o.op t (t'.get un 0) (nthN mks j) P pr ih hi then dpass all mks lim P pr ih l (Nat.succ j) (putT o.dst t (t'.get un 0)) g s q al hi (⟨j, o.op, t, t'.get un 0⟩ :: ob) else .err 163
            | .err n => .err n
            | _ => .err 164)
          (match opF o.op P pr ih t E0 q kid with
            | .norm t' h' _ => dpass all mks lim P pr ih l (Nat.succ j) (putT o.dst t (t'.get un 0)) g s (Nat.succ q) (⟨j, q, h'.get .gone q⟩ :: al) hi ob
            | .err n => .err n
            | _ => .err 165)
          (match opF o.op P pr ih t (addAll (pickM true (nthN mks j) al) g) s kid with
            | .norm t' g' s' => bif oblOk g' (nthN mks j) P pr ih ob then dpass all mks lim P pr ih l (Nat.succ j) (putT o.dst t (t'.get un 0)) g' s' q (pickM false (nthN mks j) al) (⟨j, g⟩ :: hi) ob else .err 166
            | .err n => .err n
            | _ => .err 167)
      else dpass all mks lim P pr ih l (Nat.succ j) (putT o.dst t un) g s q al hi ob := rfl
    rw [e1]
    rw [e0] at hr ⊢
    cases hd : dstC o.dst with
    | no => rw [hd] at hr; exact hr.elim
    | mk d =>
      rw [hd] at hr
      cases hop : opC (fun ih t h s k => opers1 noYl o P pr ih t h s k) P pr o with
      | no => rw [hop] at hr; exact hr.elim
      | mk f =>
        rw [hop] at hr
        have hfok : FOk P pr ih f o.op := opC_FOk hop
        have hdst := dstC_ok hd
        have act : (appD (dcls (cls o.op) j (nthN mks j) f d (dpC P pr all mks l (Nat.succ j))) lim ih t g s q al hi obC).good → appD (dcls (cls o.op) j (nthN mks j) f d (dpC P pr all mks l (Nat.succ j))) lim ih t g s q al hi obC = dsel (cls o.op)
          (match opF o.op P pr ih t E0 0 kid0 with
            | .norm t' _ _ => dpass all mks lim P pr ih l (Nat.succ j) (putT o.dst t (t'.get un 0)) g s q al hi ob
            | .err n => .err n
            | _ => .err 162)
          (match opF o.op P pr ih t g 0 kid0 with
            | .norm t' _ _ => bif histOk o.op t (t'.get un 0) (nthN mks j) P pr ih hi then dpass all mks lim P pr ih l (Nat.succ j) (putT o.dst t (t'.get un 0)) g s q al hi (⟨j, o.op, t, t'.get un 0⟩ :: ob) else .err 163
            | .err n => .err n
            | _ => .err 164)
          (match opF o.op P pr ih t E0 q kid with
            | .norm t' h' _ => dpass all mks lim P pr ih l (Nat.succ j) (putT o.dst t (t'.get un 0)) g s (Nat.succ q) (⟨j, q, h'.get .gone q⟩ :: al) hi ob
            | .err n => .err n
            | _ => .err 165)
          (match opF o.op P pr ih t (addAll (pickM true (nthN mks j) al) g) s kid with
            | .norm t' g' s' => bif oblOk g' (nthN mks j) P pr ih ob then dpass all mks lim P pr ih l (Nat.succ j) (putT o.dst t (t'.get un 0)) g' s' q (pickM false (nthN mks j) al) (⟨j, g⟩ :: hi) ob else .err 166
            | .err n => .err n
            | _ => .err 167) := fun hr => by
          generalize cls o.op = c at hr ⊢
          match c, hr with
          | 0, hr =>
            change (nrm (f ih t E0 0 kid0) (fun v _ _ => appD (dpC P pr all mks l (Nat.succ j)) lim ih (d t v) g s q al hi obC)).good at hr
            show nrm (f ih t E0 0 kid0) (fun v _ _ => appD (dpC P pr all mks l (Nat.succ j)) lim ih (d t v) g s q al hi obC) = _
            obtain ⟨t', h', s', g1, g2⟩ := nrm_good hr
            rw [g2, hdst] at hr ⊢
            show _ = (match opF o.op P pr ih t E0 0 kid0 with
              | .norm t' _ _ => dpass all mks lim P pr ih l (Nat.succ j) (putT o.dst t (t'.get un 0)) g s q al hi ob
              | .err n => .err n
              | _ => .err 162 : RO)
            rw [hfok _ _ _ _ _ _ _ g1]
            exact dpC_eq l (Nat.succ j) _ g s q al hi obC ob hR hr
          | 1, hr =>
            change (nrm (f ih t g 0 kid0) (fun v _ _ => bif histC f t v (nthN mks j) ih hi then appD (dpC P pr all mks l (Nat.succ j)) lim ih (d t v) g s q al hi (⟨j, f, t, v⟩ :: obC) else .err 163)).good at hr
            show nrm (f ih t g 0 kid0) (fun v _ _ => bif histC f t v (nthN mks j) ih hi then appD (dpC P pr all mks l (Nat.succ j)) lim ih (d t v) g s q al hi (⟨j, f, t, v⟩ :: obC) else .err 163) = _
            obtain ⟨t', h', s', g1, g2⟩ := nrm_good hr
            rw [g2] at hr ⊢
            have hh := bif_good hr
            rw [hh, hdst] at hr ⊢
            simp only [cond_true] at hr ⊢
            show _ = (match opF o.op P pr ih t g 0 kid0 with
              | .norm t' _ _ => bif histOk o.op t (t'.get un 0) (nthN mks j) P pr ih hi then dpass all mks lim P pr ih l (Nat.succ j) (putT o.dst t (t'.get un 0)) g s q al hi (⟨j, o.op, t, t'.get un 0⟩ :: ob) else .err 163
              | .err n => .err n
              | _ => .err 164 : RO)
            rw [hfok _ _ _ _ _ _ _ g1]
            dsimp only
            rw [histC_ok hfok hh]
            exact dpC_eq l (Nat.succ j) _ g s q al hi _ _ (.cons hfok hR) hr
          | 2, hr =>
            change (nrm (f ih t E0 q kid) (fun v h' _ => appD (dpC P pr all mks l (Nat.succ j)) lim ih (d t v) g s (Nat.succ q) (⟨j, q, h'.get .gone q⟩ :: al) hi obC)).good at hr
            show nrm (f ih t E0 q kid) (fun v h' _ => appD (dpC P pr all mks l (Nat.succ j)) lim ih (d t v) g s (Nat.succ q) (⟨j, q, h'.get .gone q⟩ :: al) hi obC) = _
            obtain ⟨t', h', s', g1, g2⟩ := nrm_good hr
            rw [g2, hdst] at hr ⊢
            show _ = (match opF o.op P pr ih t E0 q kid with
              | .norm t' h' _ => dpass all mks lim P pr ih l (Nat.succ j) (putT o.dst t (t'.get un 0)) g s (Nat.succ q) (⟨j, q, h'.get .gone q⟩ :: al) hi ob
              | .err n => .err n
              | _ => .err 165 : RO)
            rw [hfok _ _ _ _ _ _ _ g1]
            exact dpC_eq l (Nat.succ j) _ g s _ _ hi obC ob hR hr
          | c + 3, hr =>
            change (nrm (f ih t (addAll (pickM true (nthN mks j) al) g) s kid) (fun v g' s' => bif oblC g' (nthN mks j) ih obC then appD (dpC P pr all mks l (Nat.succ j)) lim ih (d t v) g' s' q (pickM false (nthN mks j) al) (⟨j, g⟩ :: hi) obC else .err 166)).good at hr
            show nrm (f ih t (addAll (pickM true (nthN mks j) al) g) s kid) (fun v g' s' => bif oblC g' (nthN mks j) ih obC then appD (dpC P pr all mks l (Nat.succ j)) lim ih (d t v) g' s' q (pickM false (nthN mks j) al) (⟨j, g⟩ :: hi) obC else .err 166) = _
            obtain ⟨t', h', s', g1, g2⟩ := nrm_good hr
            rw [g2] at hr ⊢
            have hh := bif_good hr
            rw [hh, hdst] at hr ⊢
            simp only [cond_true] at hr ⊢
            show _ = (match opF o.op P pr ih t (addAll (pickM true (nthN mks j) al) g) s kid with
              | .norm t' g' s' => bif oblOk g' (nthN mks j) P pr ih ob then dpass all mks lim P pr ih l (Nat.succ j) (putT o.dst t (t'.get un 0)) g' s' q (pickM false (nthN mks j) al) (⟨j, g⟩ :: hi) ob else .err 166
              | .err n => .err n
              | _ => .err 167 : RO)
            rw [hfok _ _ _ _ _ _ _ g1]
            dsimp only
            rw [oblC_ok hR hh]
            exact dpC_eq l (Nat.succ j) _ h' s' q _ _ obC ob hR hr
        cases hw : wantC all o.guard with
        | no =>
          rw [hw] at hr
          rw [wantC_no hw t]
          exact act hr
        | mk wq =>
          rw [hw] at hr
          rw [← wantC_mk hw t]
          change (appD (Bx.rec (motive := fun _ => Bx DC) .no (fun q0 => .mk (fun lim ih t g s q al hi ob => Bool.rec (motive := fun _ => RO) (appD (dpC P pr all mks l (Nat.succ j)) lim ih (d t un) g s q al hi ob) (q0 lim ih t g s q al hi ob) (wq t))) (dcls (cls o.op) j (nthN mks j) f d (dpC P pr all mks l (Nat.succ j)))) lim ih t g s q al hi obC).good at hr
          show appD (Bx.rec (motive := fun _ => Bx DC) .no (fun q0 => .mk (fun lim ih t g s q al hi ob => Bool.rec (motive := fun _ => RO) (appD (dpC P pr all mks l (Nat.succ j)) lim ih (d t un) g s q al hi ob) (q0 lim ih t g s q al hi ob) (wq t))) (dcls (cls o.op) j (nthN mks j) f d (dpC P pr all mks l (Nat.succ j)))) lim ih t g s q al hi obC = _
          cases hq0 : dcls (cls o.op) j (nthN mks j) f d (dpC P pr all mks l (Nat.succ j)) with
          | no => rw [hq0] at hr; exact hr.elim
          | mk q0 =>
            rw [hq0] at hr act
            change (Bool.rec (motive := fun _ => RO) (appD (dpC P pr all mks l (Nat.succ j)) lim ih (d t un) g s q al hi obC) (q0 lim ih t g s q al hi obC) (wq t) : RO).good at hr
            show (Bool.rec (motive := fun _ => RO) (appD (dpC P pr all mks l (Nat.succ j)) lim ih (d t un) g s q al hi obC) (q0 lim ih t g s q al hi obC) (wq t) : RO) = _
            cases hwt : wq t with
            | true => rw [hwt] at hr; exact act hr
            | false =>
              rw [hwt] at hr
              dsimp only at hr ⊢
              simp only [cond_false]
              rw [hdst] at hr ⊢
              exact dpC_eq l (Nat.succ j) _ g s q al hi obC ob hR hr
theorem drawnC_eq {ops : List Oper} {q : RC} (hq : drawnC P pr ops = .mk q) (hr : (q ih t h s).good) : q ih t h s = drawn ops P pr ih t h s := by
  unfold drawnC at hq
  unfold drawn
  cases hd : drawOk ops with
  | false => rw [hd] at hq; cases hq
  | true =>
    rw [hd] at hq
    simp only [cond_true] at hq ⊢
    cases hp : dpC P pr ops (masks ops []) ops 0 with
    | no => rw [hp] at hq; cases hq
    | mk f =>
      rw [hp] at hq
      injection hq with hq; subst hq
      have e1 : ∀ lim ih t g s q al hi ob, f lim ih t g s q al hi ob = appD (dpC P pr ops (masks ops []) ops 0) lim ih t g s q al hi ob := fun _ _ _ _ _ _ _ _ _ => by rw [hp]; rfl
      dsimp only at hr ⊢
      rw [e1] at hr ⊢
      exact dpC_eq ops 0 t h _ s [] [] [] [] .nil hr
end Go.Ev
namespace Go.Ev
open Go.RowKit
variable {P : Program} {pr : Prims}
/-- A memory without blocks. -/
noncomputable def bare : H := T.mk .gone 20 1000000
noncomputable def okB (r : RO) : Bool :=
  RO.rec (motive := fun _ => Bool) (fun t _ _ => match t with | .node v _ _ => (match v with | .bool b => b | _ => false) | _ => false) (fun _ _ _ _ => false) (fun _ _ _ => false) (fun _ => false) (fun _ _ a b => bif a then b else false) r
theorem okB_good : ∀ {r : RO}, okB r = true → r.good
  | .norm .., _ => trivial
  | .exit .., h => by cases h
  | .ret .., h => by cases h
  | .err _, h => by cases h
  | .or a b, h => by
    change (bif okB a then okB b else false) = true at h
    cases ha : okB a with
    | false => rw [ha] at h; cases h
    | true => rw [ha] at h; exact ⟨okB_good ha, okB_good h⟩
theorem okB_sub {x r : RO} (h : Sub x r) (hr : okB r = true) : okB x = true := by
  induction h with
  | refl => exact hr
  | @left a b _ ih =>
    change (bif okB a then okB b else false) = true at hr
    cases ha : okB a with
    | false => rw [ha] at hr; cases hr
    | true => exact ih ha
  | @right a b _ ih =>
    change (bif okB a then okB b else false) = true at hr
    cases ha : okB a with
    | false => rw [ha] at hr; cases hr
    | true => rw [ha] at hr; exact ih hr
theorem okB_kid {v : V} {h : H} {s : Nat} (hk : okB (kid v h s) = true) : v = .bool true := by
  cases v
  case bool b => have hb : b = true := hk; rw [hb]
  all_goals exact absurd (show (false : Bool) = true from hk) (by decide)
/-- Nothing is known but what was there. -/
def env0 (B : Base) : Env := ⟨fun _ => none, B⟩
/-- What was there before a run. -/
structure BaseAt (B : Base) (w : World) : Prop where
  lim : ∀ n, B.prot n → n < w.heap.size
  old : ∀ n, n < w.heap.size → w.heap[n]? = B.w0 n
theorem noBase_at (w : World) : BaseAt (noBase w) w := ⟨fun _ h => h, fun _ _ => rfl⟩
theorem bare_gone (b : Nat) : ¬ live bare b := fun h => h (by unfold bare; exact T.get_mk _ _ _ _)
theorem bare_sim {B : Base} {w : World} (hB : BaseAt B w) : Sim (env0 B) bare w :=
  ⟨fun b hb => absurd hb (bare_gone b), fun b b' x x' hb => absurd hb (bare_gone b), hB.lim, fun n hn => hB.old n (hB.lim n hn), fun b x hb => absurd hb (bare_gone b)⟩
/-- A function that returns true whatever its arguments within what is known of them, by its evaluation. -/
theorem open_ok (hm : P.follows .mixedOrders = true) (hpr : SoundPr P pr) (n f : Nat) (args : List V) (hk : okB (callV f args P pr (run P pr n) bare 0 kid) = true) (w : World) (xs : List Value) (B : Base) (hB : BaseAt B w) (hx : VRs (env0 B) args xs) :
    Calls P f ⟨xs⟩ w (fun en w' => en = .returned (.bool true) ∧ Below w.heap.size w w') := by
  generalize hr : callV f args P pr (run P pr n) bare 0 kid = r at hk
  obtain ⟨_, h3⟩ := callV_ok hr (okB_good hk) (run_sound hm hpr n) hpr (env0 B) w xs hx (bare_sim hB) (fun _ _ => rfl)
  refine Calls.mono h3 (fun en w' hq => ?_)
  obtain ⟨x, rfl, v, h', s', hsub, e', hv, p⟩ := hq
  have hvt := okB_kid (okB_sub hsub hk)
  subst hvt
  cases hv
  exact ⟨rfl, p.os, p.tape, p.output, p.size, fun k hk => p.keep k hk (fun b x hb => absurd hb (bare_gone b))⟩
/-- A function without arguments. -/
theorem closed_ok (hm : P.follows .mixedOrders = true) (hpr : SoundPr P pr) (n f : Nat) (hk : okB (callV f [] P pr (run P pr n) bare 0 kid) = true) (w : World) : Calls P f #[] w (fun en w' => en = .returned (.bool true) ∧ Below w.heap.size w w') :=
  open_ok hm hpr n f [] hk w [] (noBase w) (noBase_at w) .nil
/-- No function by another way. -/
def noPr : Prims := fun _ => none
theorem noPr_ok : SoundPr P noPr := fun f g h => by cases h
/-- One function that ranges over a function. -/
noncomputable def rfPr (P : Program) (n F : Nat) : Prims := fun f => bif Nat.beq f F then some (rfV P noPr (run P noPr n) F) else none
theorem rfPr_ok (hm : P.follows .mixedOrders = true) (n F : Nat) : SoundPr P (rfPr P n F) := fun f g h => by
  unfold rfPr at h
  cases hf : Nat.beq f F with
  | false => rw [hf] at h; cases h
  | true =>
    rw [hf] at h
    simp only [cond_true] at h
    injection h with h
    have := Nat.eq_of_beq_eq_true hf
    subst this
    subst h
    intro args h s k hr
    exact rfV_ok (run_sound hm noPr_ok n) noPr_ok hr
end Go.Ev
namespace Go.Ev
open Go.RowKit
variable {P : Program} {pr : Prims} {e : Env} {h : H} {s : Nat} {w : World}
/-- What turns nothing that was there, and makes nothing that is known. -/
theorem Post.below {w' : World} (hs : Sim e h w) (hf : Free e s) (hb : Below w.heap.size w w') : Post e s h w e s h w' where
  le := Env.le.refl e
  low := fun _ _ => rfl
  up := Nat.le_refl _
  free := hf
  sim := ⟨fun b hl => by
    obtain ⟨x, o, g1, g2, g3⟩ := hs.blk b hl
    refine ⟨x, o, g1, ?_, g3⟩
    rw [hb.block _ (Array.getElem?_eq_some_iff.1 g2).1]; exact g2, hs.inj, fun n hn => Nat.lt_of_lt_of_le (hs.big n hn) hb.size, fun n hn => by rw [hb.block _ (hs.big n hn)]; exact hs.old n hn, hs.above⟩
  dom := fun b x hl hx => .inl ⟨b, x, hl, hx, rfl⟩
  keep := fun n hn _ => hb.block n hn
  size := hb.size
  os := hb.os
  tape := hb.tape
  output := hb.output
def isFn (P : Program) (F : Nat) : Bool := match fnOf P F with | .fn _ _ _ => true | _ => false
/-- A function without arguments that is known to return true. -/
noncomputable def tuPr (F : Nat) (pr : Prims) : Prims := fun f => bif Nat.beq f F then some (fun l h s k => match l with | [] => k (.bool true) h s | _ => .err 210) else pr f
theorem tuPr_ok {F : Nat} (hF : isFn P F = true) (hc : ∀ w, Calls P F #[] w (fun en w' => en = .returned (.bool true) ∧ Below w.heap.size w w')) (hpr : SoundPr P pr) : SoundPr P (tuPr F pr) := fun f g h => by
  unfold tuPr at h
  cases hf : Nat.beq f F with
  | false => rw [hf] at h; exact hpr f g h
  | true =>
    rw [hf] at h
    simp only [cond_true] at h
    injection h with h
    have := Nat.eq_of_beq_eq_true hf
    subst this
    subst h
    intro args h s k hr e w xs hx hs hf'
    unfold isFn at hF
    split at hF
    · rename_i c n rs hfn
      obtain ⟨_, _, _, _, _, g5⟩ := fnOf_ok hfn
      cases hx with
      | nil => exact ⟨g5 _ _, Calls.mono (hc w) (fun en w' hq => ⟨.bool true, hq.1, .bool true, h, s, .refl _, e, .bool _, Post.below hs hf' hq.2⟩)⟩
      | cons _ _ => exact hr.elim
    · cases hF
end Go.Ev
namespace Go.Ev
open Go.RowKit
variable {D : List Deferred}
variable {P : Program} {pr : Prims} {ih : Rn} {e : Env} {t : T V} {h : H} {s : Nat} {w : World} {a : Act} {r : RO} {k : K} {o : Oper}
/-- The loop, whose body is known. -/
theorem loopC_arrives (hih : SoundRn P ih) {c : Code} {b0 : Bx RC} (hb0 : ∀ t h s, (appR b0 ih t h s).good → ∀ D e a w, AR D e t a → Sim e h w → Free e s → c.wp P (LR D (appR b0 ih t h s) e s h w) a w)
    (hr : ((appR b0 ih t h s).bnd (fun t h s => ih (.loop c) t h s) .exit .ret).good) (ha : AR D e t a) (hs : Sim e h w) (hf : Free e s) (b : Frame) (k : List Item) (cs : List Frame) :
    ∃ x a' w', LR D ((appR b0 ih t h s).bnd (fun t h s => ih (.loop c) t h s) .exit .ret) e s h w x a' w' ∧ Arrives P (lone (b.at a (.code c :: .inLoop c :: k)) cs w) b k cs x a' w' := by
  obtain ⟨x1, a1, w1, hq, harr⟩ := hb0 t h s (RO.good_bnd hr) D e a w ha hs hf b (.inLoop c :: k) cs
  obtain ⟨l, g1, g2, g3⟩ := hq.leaf
  have hsub := g1.bnd (fun t h s => ih (.loop c) t h s) .exit .ret
  cases l with
  | norm t' h' s' =>
    obtain ⟨rfl, e', ha', hp⟩ := g3
    obtain ⟨x2, a2, w2, hq2, harr2⟩ := hih.loop c t' h' s' (hsub.good hr) D e' a1 w1 ha' hp.sim hp.free b k cs
    exact ⟨x2, a2, w2, LR.sub hsub (LR.trans hp hq2), .of_steps (Steps.trans harr (.one step_inLoop)) harr2⟩
  | exit id t' h' s' =>
    obtain ⟨rfl, hq'⟩ := g3
    exact ⟨_, a1, w1, LR.sub hsub ⟨rfl, hq'⟩, .pass (x := .inLoop c) rfl (fun _ _ => .inl (by simp)) harr⟩
  | ret t' h' s' =>
    obtain ⟨rfl, hq'⟩ := g3
    exact ⟨_, a1, w1, LR.sub hsub ⟨rfl, hq'⟩, .pass (x := .inLoop c) rfl (fun _ _ => .inl (by simp)) harr⟩
  | err n => exact g3.elim
  | or _ _ => exact g2.elim
theorem codC_ok (hm : P.follows .mixedOrders = true) (hih : SoundRn P ih) (hpr : SoundPr P pr) : ∀ (c : Code) t h s, (appR (codC P pr c) ih t h s).good → ∀ D e a w, AR D e t a → Sim e h w → Free e s → c.wp P (LR D (appR (codC P pr c) ih t h s) e s h w) a w
  | .skip, t, h, s, hr, D, e, a, w, ha, hs, hf => wp_skip ⟨rfl, e, ha, Post.refl hs hf⟩
  | .label l, t, h, s, hr, D, e, a, w, ha, hs, hf => wp_label ⟨rfl, e, ha, Post.refl hs hf⟩
  | .exit id, t, h, s, hr, D, e, a, w, ha, hs, hf => wp_exit ⟨rfl, e, ha, Post.refl hs hf⟩
  | .ret, t, h, s, hr, D, e, a, w, ha, hs, hf => wp_ret ⟨rfl, e, ha, Post.refl hs hf⟩
  | .region id ops d, t, h, s, hr, D, e, a, w, ha, hs, hf => by
    cases d with
    | false =>
      change (appR (regC P pr ops.toList ops.toList) ih t h s).good at hr
      show (Code.region id ops false).wp P (LR D (appR (regC P pr ops.toList ops.toList) ih t h s) e s h w) a w
      obtain ⟨q, hq, hq2⟩ := appR_good hr
      rw [hq2] at hr ⊢
      exact regionC_ok hih hpr hq hr ha hs hf
    | true =>
      change (appR (drawnC P pr ops.toList) ih t h s).good at hr
      show (Code.region id ops true).wp P (LR D (appR (drawnC P pr ops.toList) ih t h s) e s h w) a w
      obtain ⟨q, hq, hq2⟩ := appR_good hr
      rw [hq2] at hr ⊢
      have he := drawnC_eq hq hr
      rw [he] at hr ⊢
      exact drawn_ok hm hih hpr hr ha hs hf
  | .seq x y, t, h, s, hr, D, e, a, w, ha, hs, hf => by
    change ((appR (codC P pr x) ih t h s).bnd (fun t h s => appR (codC P pr y) ih t h s) .exit .ret).good at hr
    show (Code.seq x y).wp P (LR D ((appR (codC P pr x) ih t h s).bnd (fun t h s => appR (codC P pr y) ih t h s) .exit .ret) e s h w) a w
    refine wp_seq (wp_mono (codC_ok hm hih hpr x t h s (RO.good_bnd hr) D e a w ha hs hf) (fun x1 a1 w1 hq => ?_))
    obtain ⟨l, g1, g2, g3⟩ := hq.leaf
    have hsub := g1.bnd (fun t h s => appR (codC P pr y) ih t h s) .exit .ret
    cases l with
    | norm t' h' s' =>
      obtain ⟨rfl, e', ha', hp⟩ := g3
      exact wp_mono (codC_ok hm hih hpr y t' h' s' (hsub.good hr) D e' a1 w1 ha' hp.sim hp.free) (fun _ _ _ q => LR.sub hsub (LR.trans hp q))
    | exit id t' h' s' =>
      obtain ⟨rfl, hq'⟩ := g3
      exact LR.sub hsub ⟨rfl, hq'⟩
    | ret t' h' s' =>
      obtain ⟨rfl, hq'⟩ := g3
      exact LR.sub hsub ⟨rfl, hq'⟩
    | err n => exact g3.elim
    | or _ _ => exact g2.elim
  | .cond c x y, t, h, s, hr, D, e, a, w, ha, hs, hf => by
    change (appR (Bx.rec (motive := fun _ => Bx RC) .no (fun g => .mk (fun ih t h s => getB (g t) (appR (codC P pr x) ih t h s) (appR (codC P pr y) ih t h s) (.err 140))) (opdC c)) ih t h s).good at hr
    show (Code.cond c x y).wp P (LR D (appR (Bx.rec (motive := fun _ => Bx RC) .no (fun g => .mk (fun ih t h s => getB (g t) (appR (codC P pr x) ih t h s) (appR (codC P pr y) ih t h s) (.err 140))) (opdC c)) ih t h s) e s h w) a w
    cases hg : opdC c with
    | no => rw [hg] at hr; exact hr.elim
    | mk g =>
      rw [hg] at hr
      change (getB (g t) (appR (codC P pr x) ih t h s) (appR (codC P pr y) ih t h s) (.err 140)).good at hr
      show (Code.cond c x y).wp P (LR D (getB (g t) (appR (codC P pr x) ih t h s) (appR (codC P pr y) ih t h s) (.err 140)) e s h w) a w
      obtain ⟨v, h1, hv⟩ := opnd_ok (a := a) (t := t) (x := c) (f := fun v => .norm (.node v .nil .nil) h s) (r := .norm (.node (g t) .nil .nil) h s) (opdC_ok hg t _) trivial ha
      have hvg : v = g t := by injection h1 with h1; injection h1
      rw [hvg] at hv
      rcases getB_cases (g t) (appR (codC P pr x) ih t h s) (appR (codC P pr y) ih t h s) (.err 140) with ⟨b, hb, h2⟩ | h2
      · rw [hb] at hv
        generalize hc : a.eval c = cv at hv
        cases hv
        rw [h2] at hr ⊢
        cases b with
        | true => exact wp_cond_true hc (codC_ok hm hih hpr x t h s hr D e a w ha hs hf)
        | false => exact wp_cond_false hc (codC_ok hm hih hpr y t h s hr D e a w ha hs hf)
      · rw [h2] at hr; exact hr.elim
  | .block id c, t, h, s, hr, D, e, a, w, ha, hs, hf => by
    change ((appR (codC P pr c) ih t h s).bnd .norm (fun i t h s => bif Nat.beq i id then .norm t h s else .exit i t h s) .ret).good at hr
    show (Code.block id c).wp P (LR D ((appR (codC P pr c) ih t h s).bnd .norm (fun i t h s => bif Nat.beq i id then .norm t h s else .exit i t h s) .ret) e s h w) a w
    refine wp_block (wp_mono (codC_ok hm hih hpr c t h s (RO.good_bnd hr) D e a w ha hs hf) (fun x1 a1 w1 hq => ?_))
    obtain ⟨l, g1, g2, g3⟩ := hq.leaf
    have hsub := g1.bnd .norm (fun i t h s => bif Nat.beq i id then .norm t h s else .exit i t h s) .ret
    cases l with
    | norm t' h' s' =>
      obtain ⟨rfl, hq'⟩ := g3
      exact LR.sub hsub ⟨rfl, hq'⟩
    | ret t' h' s' =>
      obtain ⟨rfl, hq'⟩ := g3
      exact LR.sub hsub ⟨rfl, hq'⟩
    | exit i t' h' s' =>
      obtain ⟨rfl, hq'⟩ := g3
      unfold Exit.inBlock
      dsimp only
      change Sub (bif Nat.beq i id then .norm t' h' s' else .exit i t' h' s') _ at hsub
      rw [beq_eq] at hsub
      by_cases hi : i = id
      · rw [if_pos hi]
        simp only [hi, decide_true, cond_true] at hsub
        exact LR.sub hsub ⟨rfl, hq'⟩
      · rw [if_neg hi]
        simp only [hi, decide_false, cond_false] at hsub
        exact LR.sub hsub ⟨rfl, hq'⟩
    | err n => exact g3.elim
    | or _ _ => exact g2.elim
  | .loop c, t, h, s, hr, D, e, a, w, ha, hs, hf => by
    intro b k cs
    obtain ⟨x, a', w', hq, harr⟩ := loopC_arrives hih (b0 := codC P pr c) (fun t h s hr D e a w ha hs hf => codC_ok hm hih hpr c t h s hr D e a w ha hs hf) hr ha hs hf b k cs
    exact ⟨x, a', w', hq, .of_steps (.one step_loop) harr⟩
  | .rangeFunc _ _ _ _, t, h, s, hr, D, e, a, w, ha, hs, hf => hr.elim
  | .scope _, t, h, s, hr, D, e, a, w, ha, hs, hf => hr.elim
  | .goto _, t, h, s, hr, D, e, a, w, ha, hs, hf => hr.elim
  | .refuse _, t, h, s, hr, D, e, a, w, ha, hs, hf => hr.elim
/-- The quick form is sound. -/
theorem runF_sound (hm : P.follows .mixedOrders = true) (hpr : SoundPr P pr) : ∀ n, SoundRn P (runF P pr n)
  | 0 => ⟨fun _ _ _ _ hr => hr.elim, fun _ _ _ _ hr => hr.elim⟩
  | n + 1 => ⟨fun c t h s hr D e a w ha hs hf => codC_ok hm (runF_sound hm hpr n) hpr c t h s hr D e a w ha hs hf,
    fun c t h s hr D e a w ha hs hf b k cs => loopC_arrives (runF_sound hm hpr n) (b0 := codC P pr c) (fun t h s hr D e a w ha hs hf => codC_ok hm (runF_sound hm hpr n) hpr c t h s hr D e a w ha hs hf) hr ha hs hf b k cs⟩
/-- A function that returns true whatever its arguments within what is known of them, by its evaluation. -/
theorem open_okF (hm : P.follows .mixedOrders = true) (hpr : SoundPr P pr) (n f : Nat) (args : List V) (hk : okB (callV f args P pr (runF P pr n) bare 0 kid) = true) (w : World) (xs : List Value) (B : Base) (hB : BaseAt B w) (hx : VRs (env0 B) args xs) :
    Calls P f ⟨xs⟩ w (fun en w' => en = .returned (.bool true) ∧ Below w.heap.size w w') := by
  generalize hr : callV f args P pr (runF P pr n) bare 0 kid = r at hk
  obtain ⟨_, h3⟩ := callV_ok hr (okB_good hk) (runF_sound hm hpr n) hpr (env0 B) w xs hx (bare_sim hB) (fun _ _ => rfl)
  refine Calls.mono h3 (fun en w' hq => ?_)
  obtain ⟨x, rfl, v, h', s', hsub, e', hv, p⟩ := hq
  have hvt := okB_kid (okB_sub hsub hk)
  subst hvt
  cases hv
  exact ⟨rfl, p.os, p.tape, p.output, p.size, fun k hk => p.keep k hk (fun b x hb => absurd hb (bare_gone b))⟩
/-- One function that ranges over a function, quickly. -/
noncomputable def rfPrF (P : Program) (n F : Nat) : Prims := fun f => bif Nat.beq f F then some (rfV P noPr (runF P noPr n) F) else none
theorem rfPrF_ok (hm : P.follows .mixedOrders = true) (n F : Nat) : SoundPr P (rfPrF P n F) := fun f g h => by
  unfold rfPrF at h
  cases hf : Nat.beq f F with
  | false => rw [hf] at h; cases h
  | true =>
    rw [hf] at h
    simp only [cond_true] at h
    injection h with h
    have := Nat.eq_of_beq_eq_true hf
    subst this
    subst h
    intro args h s k hr
    exact rfV_ok (runF_sound hm noPr_ok n) noPr_ok hr
end Go.Ev
