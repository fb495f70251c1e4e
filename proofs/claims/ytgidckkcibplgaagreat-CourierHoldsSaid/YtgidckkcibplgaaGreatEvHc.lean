/- An evaluator of the model's code: regions in its quick form. -/
import Derived.Test.YtgidckkcibplgaaGreatEvHb
import Derived.Test.YtgidckkcibplgaaGreatEvRb
set_option linter.unusedVariables false
set_option linter.unusedSimpArgs false
namespace Go.Ev
variable {D : List Deferred}
variable {P : Program} {pr : Prims} {ih : Rn} {e : Env} {t : T V} {h : H} {s : Nat} {w : World} {a : Act} {r : RO} {k : K} {o : Oper}
theorem dstC_ok {dst : Option Tmp} {d : T V → V → T V} (hd : dstC dst = .mk d) (t : T V) (v : V) : d t v = putT dst t v := by
  cases dst with
  | none => injection hd with hd; subst hd; rfl
  | some i => exact pathS_set 64 i d hd t v
theorem wantC_no {all : List Oper} {g : Option (Nat × Bool)} (h : wantC all g = .no) (t : T V) : want all t g = true := by
  cases g with
  | none => rfl
  | some p =>
    obtain ⟨j, b⟩ := p
    simp only [wantC] at h
    split at h
    · split at h
      · rename_i d _
        cases hp : pathG un 64 d <;> rw [hp] at h <;> cases h
      · cases h
    · cases h
theorem wantC_mk {all : List Oper} {g : Option (Nat × Bool)} {q : T V → Bool} (h : wantC all g = .mk q) (t : T V) : q t = want all t g := by
  cases g with
  | none => cases h
  | some p =>
    obtain ⟨j, b⟩ := p
    simp only [wantC] at h
    cases hd : all.drop j with
    | nil => rw [hd] at h; injection h with h; subst h; simp [want, hd]
    | cons o rest =>
      rw [hd] at h
      dsimp only at h
      cases ho : o.dst with
      | none => rw [ho] at h; injection h with h; subst h; simp [want, hd, ho]
      | some d =>
        rw [ho] at h
        dsimp only at h
        cases hp : pathG un 64 d with
        | no => rw [hp] at h; injection h with h; subst h; rfl
        | mk g =>
          rw [hp] at h
          injection h with h; subst h
          show wB b (g t) = _
          rw [pathG_get un 64 d g hp t]
          simp only [want, hd, ho]
          generalize T.get un t d = v
          cases b <;> cases v <;> first | rfl | skip
          all_goals (rename_i c; cases c <;> rfl)
theorem appR_good {b : Bx RC} (hr : (appR b ih t h s).good) : ∃ q, b = .mk q ∧ appR b ih t h s = q ih t h s := by
  cases b with
  | no => exact hr.elim
  | mk q => exact ⟨q, rfl, rfl⟩
noncomputable abbrev dynT (P : Program) (pr : Prims) (o : Oper) : OC := fun ih t h s k => opers1 (yieldV P pr ih) o P pr ih t h s k
theorem regC_ok {all : List Oper} (hih : SoundRn P ih) (hpr : SoundPr P pr) : ∀ (l pre : List Oper), all = pre ++ l → ∀ q, regC P pr all l = .mk q → ∀ t h s, (q ih t h s).good → ∀ e a w, AR D e t a → Sim e h w → Free e s →
    ∀ Q : Exit → Act → World → Prop, (∀ x a' w', LR D (q ih t h s) e s h w x a' w' → Q x a' w') → wpOpsIn Fence.wide 0 P all.toArray Q (List.range' pre.length l.length) a w
  | [], pre, hall, q, hq, t, h, s, hr, e, a, w, ha, hs, hf, Q, hQ => by
    injection hq with hq; subst hq
    exact hQ _ _ _ ⟨rfl, e, ha, Post.refl hs hf⟩
  | o :: l, pre, hall, q, hq, t, h, s, hr, e, a, w, ha, hs, hf, Q, hQ => by
    have hget : all.toArray[pre.length]? = some o := by rw [hall]; simp
    have hall' : all = (pre ++ [o]) ++ l := by rw [hall]; simp
    have e0 : regC P pr all (o :: l) = Bx.rec (motive := fun _ => Bx RC) .no (fun d => Bx.rec (motive := fun _ => Bx RC) .no (fun f =>
      Bx.rec (motive := fun _ => Bx RC) (.mk (fun ih t h s => f ih t h s (fun v h s => appR (regC P pr all l) ih (d t v) h s)))
        (fun w => .mk (fun ih t h s => Bool.rec (motive := fun _ => RO) (appR (regC P pr all l) ih (d t un) h s) (f ih t h s (fun v h s => appR (regC P pr all l) ih (d t v) h s)) (w t))) (wantC all o.guard)) (opC (dynT P pr o) P pr o)) (dstC o.dst) := rfl
    rw [e0] at hq
    have hrange : List.range' pre.length (o :: l).length = pre.length :: List.range' (pre ++ [o]).length l.length := by
      simp [List.range'_succ]
    rw [hrange]
    unfold wpOpsIn
    rw [hget]
    simp only
    rw [want_ok (all := all) ha.tr]
    cases hd : dstC o.dst with
    | no => rw [hd] at hq; cases hq
    | mk d =>
      rw [hd] at hq
      cases hop : opC (dynT P pr o) P pr o with
      | no => rw [hop] at hq; cases hq
      | mk f =>
        rw [hop] at hq
        have act : (f ih t h s (fun v h s => appR (regC P pr all l) ih (d t v) h s)).good → (∀ x a' w', LR D (f ih t h s (fun v h s => appR (regC P pr all l) ih (d t v) h s)) e s h w x a' w' → Q x a' w') → o.wpIn Fence.wide 0 P a w (wpOpsIn Fence.wide 0 P all.toArray Q (List.range' (pre ++ [o]).length l.length)) Q := fun hr hQ => by
          have he := (opC_ok (yl := yieldV P pr ih) (ih := ih) (t := t) (h := h) (s := s) (k := fun v h s => appR (regC P pr all l) ih (d t v) h s) hop (fun _ _ _ _ => .refl _)).good hr
          refine opers1_ok (o := o) FW.wide (yieldV_ok hih hpr) hih hpr (.inl rfl) he.symm hr ha hs hf _ _ (fun x w' hx => ?_)
          obtain ⟨v, h', s', hsub, e', hv, hp⟩ := hx
          have hr' := hsub.good hr
          dsimp only at hsub hr'
          obtain ⟨q', hq', hq2⟩ := appR_good hr'
          rw [hq2, dstC_ok hd] at hsub hr'
          exact regC_ok hih hpr l (pre ++ [o]) hall' q' hq' (putT o.dst t v) h' s' hr' e' (a.put o.dst x) w' ((ha.mono hp.le).put hv) hp.sim hp.free Q (fun x a' w' q => hQ _ _ _ (LR.sub hsub (LR.trans hp q)))
        cases hw : wantC all o.guard with
        | no =>
          rw [hw] at hq
          injection hq with hq; subst hq
          rw [wantC_no hw t]
          exact act hr hQ
        | mk wq =>
          rw [hw] at hq
          injection hq with hq; subst hq
          rw [← wantC_mk hw t]
          cases hwt : wq t with
          | true =>
            dsimp only at hr hQ
            rw [hwt] at hr hQ
            exact act hr hQ
          | false =>
            dsimp only at hr hQ
            rw [hwt] at hr hQ
            simp only [if_false, Bool.false_eq_true] at hr hQ ⊢
            obtain ⟨q', hq', hq2⟩ := appR_good hr
            rw [hq2, dstC_ok hd] at hr hQ
            exact ⟨fun f _ => trivial, regC_ok hih hpr l (pre ++ [o]) hall' q' hq' (putT o.dst t un) h s hr e (a.put o.dst undef) w (ha.put undef_VR) hs hf Q hQ⟩
/-- The text's order. -/
theorem regionC_ok {id : Nat} {ops : Array Oper} {q : RC} (hih : SoundRn P ih) (hpr : SoundPr P pr) (hq : regC P pr ops.toList ops.toList = .mk q) (hr : (q ih t h s).good) (ha : AR D e t a) (hs : Sim e h w) (hf : Free e s) :
    (Code.region id ops false).wp P (LR D (q ih t h s) e s h w) a w := by
  have := regC_ok (all := ops.toList) hih hpr ops.toList [] rfl q hq t h s hr e a w ha hs hf _ (fun _ _ _ q => q)
  exact wpIn_wide.1 (wpIn_region (n := 0) (by simpa [List.range_eq_range'] using this))
/-! Regions that draw their order. -/
theorem opnds_val : ∀ {l : List Operand} {F : List V → RO}, (opnds t l F).good → ∃ vs, ∀ K, opnds t l K = K vs
  | [], F, hr => ⟨[], fun _ => rfl⟩
  | x :: l, F, hr => by
    change (opnd t x (fun v => opnds t l (fun vs => F (v :: vs)))).good at hr
    obtain ⟨v, hv, _⟩ := opnd_val hr
    rw [hv] at hr
    obtain ⟨vs, hvs⟩ := opnds_val hr
    refine ⟨v :: vs, fun K => ?_⟩
    show opnd t x (fun v => opnds t l (fun vs => K (v :: vs))) = _
    rw [hv, hvs]
theorem opnd_valE {x : Operand} {F : V → RO} {r : RO} (hk : opnd t x F = r) (hr : r.good) : ∃ v, ∀ K, opnd t x K = K v := by
  subst hk
  obtain ⟨v, hv, _⟩ := opnd_val hr
  exact ⟨v, hv⟩
theorem opnds_valE {l : List Operand} {F : List V → RO} {r : RO} (hk : opnds t l F = r) (hr : r.good) : ∃ vs, ∀ K, opnds t l K = K vs := by
  subst hk
  exact opnds_val hr
theorem opers1_norm {t' : T V} {h' : H} {s' : Nat} (hk : opers1 noYl o P pr ih t h s k = .norm t' h' s') : opF o.op P pr ih t h s k = .norm t' h' s' := by
  unfold opers1 at hk
  split at hk
  · rename_i op ty x y yt ho
    obtain ⟨v, hv⟩ := opnd_valE hk trivial
    rw [hv] at hk
    obtain ⟨u, hu⟩ := opnd_valE hk trivial
    rw [hu] at hk
    rw [ho]
    show opnd t x (fun v => opnd t y (fun u => vbin P op ty (isC x y) v u (fun r => k r h s))) = _
    rw [hv, hu]
    cases hub : ubin op v u with
    | true => rw [hub] at hk; cases hk
    | false => rw [hub] at hk; exact hk
  · rename_i c ho
    rw [ho]
    split at hk
    · rename_i x hcal
      obtain ⟨v, hv⟩ := opnd_valE hk trivial
      rw [hv] at hk
      split at hk
      · obtain ⟨vs, hvs⟩ := opnds_valE hk trivial
        rw [hvs] at hk
        cases hk
      · exact hk
    · exact hk
  · exact hk
theorem nrm_good {r : RO} {c : V → H → Nat → RO} (hr : (nrm r c).good) : ∃ t' h' s', r = .norm t' h' s' ∧ nrm r c = c (t'.get un 0) h' s' := by
  cases r with
  | norm t' h' s' => cases t' with
    | nil => exact hr.elim
    | node v l r => exact ⟨_, h', s', rfl, rfl⟩
  | _ => exact hr.elim
theorem nrmB_true {r : RO} {c : V → Bool} (hr : nrmB r c = true) : ∃ t' h' s', r = .norm t' h' s' ∧ c (t'.get un 0) = true := by
  cases r with
  | norm t' h' s' => cases t' with
    | nil => cases hr
    | node v l r => exact ⟨_, h', s', rfl, hr⟩
  | _ => cases hr
/-- A function that does what an operation does. -/
def FOk (P : Program) (pr : Prims) (ih : Rn) (f : OC) (op : Op) : Prop := ∀ t h s k t' h' s', f ih t h s k = .norm t' h' s' → opF op P pr ih t h s k = .norm t' h' s'
theorem opC_FOk {f : OC} (hf : opC (fun ih t h s k => opers1 noYl o P pr ih t h s k) P pr o = .mk f) : FOk P pr ih f o.op := fun t h s k t' h' s' hn => by
  have := (opC_ok (yl := noYl) (ih := ih) (t := t) (h := h) (s := s) (k := k) hf (fun _ _ _ _ => .refl _)).good (by rw [hn]; trivial)
  exact opers1_norm (this ▸ hn)
theorem histC_ok {f : OC} {op : Op} (hf : FOk P pr ih f op) {v : V} {m : Nat} : ∀ {l : List HI}, histC f t v m ih l = true → histOk op t v m P pr ih l = true
  | [], _ => rfl
  | x :: l, h => by
    change (bif bitB m x.j then histC f t v m ih l else (bif nrmB (f ih t x.g 0 kid0) (fun u => veqB u v) then histC f t v m ih l else false)) = true at h
    show (bif bitB m x.j then histOk op t v m P pr ih l else (bif again op t v x.g P pr ih then histOk op t v m P pr ih l else false)) = true
    cases hb : bitB m x.j with
    | true => rw [hb] at h; exact histC_ok hf h
    | false =>
      rw [hb] at h
      simp only [cond_false] at h ⊢
      cases hn : nrmB (f ih t x.g 0 kid0) (fun u => veqB u v) with
      | false => rw [hn] at h; cases h
      | true =>
        rw [hn] at h
        obtain ⟨t', h', s', g1, g2⟩ := nrmB_true hn
        have : again op t v x.g P pr ih = true := by unfold again; rw [hf _ _ _ _ _ _ _ g1]; exact g2
        rw [this]
        exact histC_ok hf h
/-- The two lists of what is still to be looked at. -/
inductive ObR (P : Program) (pr : Prims) (ih : Rn) : List OBC → List OB → Prop where
  | nil : ObR P pr ih [] []
  | cons {j f o t v lc l} (hf : FOk P pr ih f o) (hl : ObR P pr ih lc l) : ObR P pr ih (⟨j, f, t, v⟩ :: lc) (⟨j, o, t, v⟩ :: l)
theorem oblC_ok {g : H} {m : Nat} : ∀ {lc : List OBC} {l : List OB}, ObR P pr ih lc l → oblC g m ih lc = true → oblOk g m P pr ih l = true
  | _, _, .nil, _ => rfl
  | _, _, .cons (j := j) (f := f) (o := op) (t := t) (v := v) (lc := lc) (l := l) hf hl, h => by
    change (bif bitB m j then oblC g m ih lc else (bif nrmB (f ih t g 0 kid0) (fun u => veqB u v) then oblC g m ih lc else false)) = true at h
    show (bif bitB m j then oblOk g m P pr ih l else (bif again op t v g P pr ih then oblOk g m P pr ih l else false)) = true
    cases hb : bitB m j with
    | true => rw [hb] at h; exact oblC_ok hl h
    | false =>
      rw [hb] at h
      simp only [cond_false] at h ⊢
      cases hn : nrmB (f ih t g 0 kid0) (fun u => veqB u v) with
      | false => rw [hn] at h; cases h
      | true =>
        rw [hn] at h
        obtain ⟨t', h', s', g1, g2⟩ := nrmB_true hn
        have : again op t v g P pr ih = true := by unfold again; rw [hf _ _ _ _ _ _ _ g1]; exact g2
        rw [this]
        exact oblC_ok hl h
theorem bif_good {c : Bool} {x : RO} {n : Nat} (h : (bif c then x else .err n).good) : c = true := by
  cases c with
  | true => rfl
  | false => exact h.elim
theorem dpC_eq {all : List Oper} {mks : List Nat} {lim : Nat} : ∀ (l : List Oper) (j : Nat) (t : T V) (g : H) (s q : Nat) (al : List AL) (hi : List HI) (obC : List OBC) (ob : List OB), ObR P pr ih obC ob →
    (appD (dpC P pr all mks l j) lim ih t g s q al hi obC).good → appD (dpC P pr all mks l j) lim ih t g s q al hi obC = dpass all mks lim P pr ih l j t g s q al hi ob
  | [], j, t, g, s, q, al, hi, obC, ob, hR, hr => rfl
  | o :: l, j, t, g, s, q, al, hi, obC, ob, hR, hr => by
    have e0 : dpC P pr all mks (o :: l) j = Bx.rec (motive := fun _ => Bx DC) .no (fun d => Bx.rec (motive := fun _ => Bx DC) .no (fun f =>
      Bx.rec (motive := fun _ => Bx DC) (dcls (cls o.op) j (nthN mks j) f d (dpC P pr all mks l (Nat.succ j)))
        (fun w => Bx.rec (motive := fun _ => Bx DC) .no (fun q0 => .mk (fun lim ih t g s q al hi ob => Bool.rec (motive := fun _ => RO) (appD (dpC P pr all mks l (Nat.succ j)) lim ih (d t un) g s q al hi ob) (q0 lim ih t g s q al hi ob) (w t))) (dcls (cls o.op) j (nthN mks j) f d (dpC P pr all mks l (Nat.succ j)))) (wantC all o.guard)) (opC (fun ih t h s k => opers1 noYl o P pr ih t h s k) P pr o)) (dstC o.dst) := rfl
    have e1 : dpass all mks lim P pr ih (o :: l) j t g s q al hi ob = bif want all t o.guard then
        dsel (cls o.op)
          (match opF o.op P pr ih t E0 0 kid0 with
            | .norm t' _ _ => dpass all mks lim P pr ih l (Nat.succ j) (putT o.dst t (t'.get un 0)) g s q al hi ob
            | .err n => .err n
            | _ => .err 162)
          (match opF o.op P pr ih t g 0 kid0 with
            | .norm t' _ _ => bif histOk o.op t (t'.get un 0) (nthN mks j) P pr ih hi then dpass all mks lim P pr ih l (Nat.succ j) (putT o.dst t (t'.get un 0)) g s q al hi (⟨j, o.op, t, t'.get un 0⟩ :: ob) else .err 163
            | .err n => .err n
            | _ => .err 164)
          (match opF o.op P pr ih t E0 q kid with
            | .norm t' h' _ => dpass all mks lim P pr ih l (Nat.succ j) (putT o.dst t (t'.get un 0)) g s (Nat.succ q) (⟨j, q, h'.get .gone q⟩ :: al) hi ob
            | .err n => .err n
            | _ => .err 165)
          (match opF o.op P pr ih t (addAll (pickM true (nthN mks j) al) g) s kid with
            | .norm t' g' s' => bif oblOk g' (nthN mks j) P pr ih ob then dpass all mks lim P pr ih l (Nat.succ j) (putT o.dst t (t'.get un 0)) g' s' q (pickM false (nthN mks j) al) (⟨j, g⟩ :: hi) ob else .err 166
            | .err n => .err n
            | _ => .err 167)
      else dpass all mks lim P pr ih l (Nat.succ j) (putT o.dst t un) g s q al hi ob := rfl
    rw [e1]
    rw [e0] at hr ⊢
    cases hd : dstC o.dst with
    | no => rw [hd] at hr; exact hr.elim
    | mk d =>
      rw [hd] at hr
      cases hop : opC (fun ih t h s k => opers1 noYl o P pr ih t h s k) P pr o with
      | no => rw [hop] at hr; exact hr.elim
      | mk f =>
        rw [hop] at hr
        have hfok : FOk P pr ih f o.op := opC_FOk hop
        have hdst := dstC_ok hd
        have act : (appD (dcls (cls o.op) j (nthN mks j) f d (dpC P pr all mks l (Nat.succ j))) lim ih t g s q al hi obC).good → appD (dcls (cls o.op) j (nthN mks j) f d (dpC P pr all mks l (Nat.succ j))) lim ih t g s q al hi obC = dsel (cls o.op)
          (match opF o.op P pr ih t E0 0 kid0 with
            | .norm t' _ _ => dpass all mks lim P pr ih l (Nat.succ j) (putT o.dst t (t'.get un 0)) g s q al hi ob
            | .err n => .err n
            | _ => .err 162)
          (match opF o.op P pr ih t g 0 kid0 with
            | .norm t' _ _ => bif histOk o.op t (t'.get un 0) (nthN mks j) P pr ih hi then dpass all mks lim P pr ih l (Nat.succ j) (putT o.dst t (t'.get un 0)) g s q al hi (⟨j, o.op, t, t'.get un 0⟩ :: ob) else .err 163
            | .err n => .err n
            | _ => .err 164)
          (match opF o.op P pr ih t E0 q kid with
            | .norm t' h' _ => dpass all mks lim P pr ih l (Nat.succ j) (putT o.dst t (t'.get un 0)) g s (Nat.succ q) (⟨j, q, h'.get .gone q⟩ :: al) hi ob
            | .err n => .err n
            | _ => .err 165)
          (match opF o.op P pr ih t (addAll (pickM true (nthN mks j) al) g) s kid with
            | .norm t' g' s' => bif oblOk g' (nthN mks j) P pr ih ob then dpass all mks lim P pr ih l (Nat.succ j) (putT o.dst t (t'.get un 0)) g' s' q (pickM false (nthN mks j) al) (⟨j, g⟩ :: hi) ob else .err 166
            | .err n => .err n
            | _ => .err 167) := fun hr => by
          generalize cls o.op = c at hr ⊢
          match c, hr with
          | 0, hr =>
            change (nrm (f ih t E0 0 kid0) (fun v _ _ => appD (dpC P pr all mks l (Nat.succ j)) lim ih (d t v) g s q al hi obC)).good at hr
            show nrm (f ih t E0 0 kid0) (fun v _ _ => appD (dpC P pr all mks l (Nat.succ j)) lim ih (d t v) g s q al hi obC) = _
            obtain ⟨t', h', s', g1, g2⟩ := nrm_good hr
            rw [g2, hdst] at hr ⊢
            show _ = (match opF o.op P pr ih t E0 0 kid0 with
              | .norm t' _ _ => dpass all mks lim P pr ih l (Nat.succ j) (putT o.dst t (t'.get un 0)) g s q al hi ob
              | .err n => .err n
              | _ => .err 162 : RO)
            rw [hfok _ _ _ _ _ _ _ g1]
            exact dpC_eq l (Nat.succ j) _ g s q al hi obC ob hR hr
          | 1, hr =>
            change (nrm (f ih t g 0 kid0) (fun v _ _ => bif histC f t v (nthN mks j) ih hi then appD (dpC P pr all mks l (Nat.succ j)) lim ih (d t v) g s q al hi (⟨j, f, t, v⟩ :: obC) else .err 163)).good at hr
            show nrm (f ih t g 0 kid0) (fun v _ _ => bif histC f t v (nthN mks j) ih hi then appD (dpC P pr all mks l (Nat.succ j)) lim ih (d t v) g s q al hi (⟨j, f, t, v⟩ :: obC) else .err 163) = _
            obtain ⟨t', h', s', g1, g2⟩ := nrm_good hr
            rw [g2] at hr ⊢
            have hh := bif_good hr
            rw [hh, hdst] at hr ⊢
            simp only [cond_true] at hr ⊢
            show _ = (match opF o.op P pr ih t g 0 kid0 with
              | .norm t' _ _ => bif histOk o.op t (t'.get un 0) (nthN mks j) P pr ih hi then dpass all mks lim P pr ih l (Nat.succ j) (putT o.dst t (t'.get un 0)) g s q al hi (⟨j, o.op, t, t'.get un 0⟩ :: ob) else .err 163
              | .err n => .err n
              | _ => .err 164 : RO)
            rw [hfok _ _ _ _ _ _ _ g1]
            dsimp only
            rw [histC_ok hfok hh]
            exact dpC_eq l (Nat.succ j) _ g s q al hi _ _ (.cons hfok hR) hr
          | 2, hr =>
            change (nrm (f ih t E0 q kid) (fun v h' _ => appD (dpC P pr all mks l (Nat.succ j)) lim ih (d t v) g s (Nat.succ q) (⟨j, q, h'.get .gone q⟩ :: al) hi obC)).good at hr
            show nrm (f ih t E0 q kid) (fun v h' _ => appD (dpC P pr all mks l (Nat.succ j)) lim ih (d t v) g s (Nat.succ q) (⟨j, q, h'.get .gone q⟩ :: al) hi obC) = _
            obtain ⟨t', h', s', g1, g2⟩ := nrm_good hr
            rw [g2, hdst] at hr ⊢
            show _ = (match opF o.op P pr ih t E0 q kid with
              | .norm t' h' _ => dpass all mks lim P pr ih l (Nat.succ j) (putT o.dst t (t'.get un 0)) g s (Nat.succ q) (⟨j, q, h'.get .gone q⟩ :: al) hi ob
              | .err n => .err n
              | _ => .err 165 : RO)
            rw [hfok _ _ _ _ _ _ _ g1]
            exact dpC_eq l (Nat.succ j) _ g s _ _ hi obC ob hR hr
          | c + 3, hr =>
            change (nrm (f ih t (addAll (pickM true (nthN mks j) al) g) s kid) (fun v g' s' => bif oblC g' (nthN mks j) ih obC then appD (dpC P pr all mks l (Nat.succ j)) lim ih (d t v) g' s' q (pickM false (nthN mks j) al) (⟨j, g⟩ :: hi) obC else .err 166)).good at hr
            show nrm (f ih t (addAll (pickM true (nthN mks j) al) g) s kid) (fun v g' s' => bif oblC g' (nthN mks j) ih obC then appD (dpC P pr all mks l (Nat.succ j)) lim ih (d t v) g' s' q (pickM false (nthN mks j) al) (⟨j, g⟩ :: hi) obC else .err 166) = _
            obtain ⟨t', h', s', g1, g2⟩ := nrm_good hr
            rw [g2] at hr ⊢
            have hh := bif_good hr
            rw [hh, hdst] at hr ⊢
            simp only [cond_true] at hr ⊢
            show _ = (match opF o.op P pr ih t (addAll (pickM true (nthN mks j) al) g) s kid with
              | .norm t' g' s' => bif oblOk g' (nthN mks j) P pr ih ob then dpass all mks lim P pr ih l (Nat.succ j) (putT o.dst t (t'.get un 0)) g' s' q (pickM false (nthN mks j) al) (⟨j, g⟩ :: hi) ob else .err 166
              | .err n => .err n
              | _ => .err 167 : RO)
            rw [hfok _ _ _ _ _ _ _ g1]
            dsimp only
            rw [oblC_ok hR hh]
            exact dpC_eq l (Nat.succ j) _ h' s' q _ _ obC ob hR hr
        cases hw : wantC all o.guard with
        | no =>
          rw [hw] at hr
          rw [wantC_no hw t]
          exact act hr
        | mk wq =>
          rw [hw] at hr
          rw [← wantC_mk hw t]
          change (appD (Bx.rec (motive := fun _ => Bx DC) .no (fun q0 => .mk (fun lim ih t g s q al hi ob => Bool.rec (motive := fun _ => RO) (appD (dpC P pr all mks l (Nat.succ j)) lim ih (d t un) g s q al hi ob) (q0 lim ih t g s q al hi ob) (wq t))) (dcls (cls o.op) j (nthN mks j) f d (dpC P pr all mks l (Nat.succ j)))) lim ih t g s q al hi obC).good at hr
          show appD (Bx.rec (motive := fun _ => Bx DC) .no (fun q0 => .mk (fun lim ih t g s q al hi ob => Bool.rec (motive := fun _ => RO) (appD (dpC P pr all mks l (Nat.succ j)) lim ih (d t un) g s q al hi ob) (q0 lim ih t g s q al hi ob) (wq t))) (dcls (cls o.op) j (nthN mks j) f d (dpC P pr all mks l (Nat.succ j)))) lim ih t g s q al hi obC = _
          cases hq0 : dcls (cls o.op) j (nthN mks j) f d (dpC P pr all mks l (Nat.succ j)) with
          | no => rw [hq0] at hr; exact hr.elim
          | mk q0 =>
            rw [hq0] at hr act
            change (Bool.rec (motive := fun _ => RO) (appD (dpC P pr all mks l (Nat.succ j)) lim ih (d t un) g s q al hi obC) (q0 lim ih t g s q al hi obC) (wq t) : RO).good at hr
            show (Bool.rec (motive := fun _ => RO) (appD (dpC P pr all mks l (Nat.succ j)) lim ih (d t un) g s q al hi obC) (q0 lim ih t g s q al hi obC) (wq t) : RO) = _
            cases hwt : wq t with
            | true => rw [hwt] at hr; exact act hr
            | false =>
              rw [hwt] at hr
              dsimp only at hr ⊢
              simp only [cond_false]
              rw [hdst] at hr ⊢
              exact dpC_eq l (Nat.succ j) _ g s q al hi obC ob hR hr
theorem drawnC_eq {ops : List Oper} {q : RC} (hq : drawnC P pr ops = .mk q) (hr : (q ih t h s).good) : q ih t h s = drawn ops P pr ih t h s := by
  unfold drawnC at hq
  unfold drawn
  cases hd : drawOk ops with
  | false => rw [hd] at hq; cases hq
  | true =>
    rw [hd] at hq
    simp only [cond_true] at hq ⊢
    cases hp : dpC P pr ops (masks ops []) ops 0 with
    | no => rw [hp] at hq; cases hq
    | mk f =>
      rw [hp] at hq
      injection hq with hq; subst hq
      have e1 : ∀ lim ih t g s q al hi ob, f lim ih t g s q al hi ob = appD (dpC P pr ops (masks ops []) ops 0) lim ih t g s q al hi ob := fun _ _ _ _ _ _ _ _ _ => by rw [hp]; rfl
      dsimp only at hr ⊢
      rw [e1] at hr ⊢
      exact dpC_eq ops 0 t h _ s [] [] [] [] .nil hr
end Go.Ev
