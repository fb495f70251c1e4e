/- An evaluator of the model's code, eighteenth part: regions in the text's order. An evaluator of the model's code: what comes before what in a region. An evaluator of the model's code: what an operation leans on. -/
import Derived.Test.YtnklmadmenkdoaaGreatQEvQ
import Derived.CallsIn
import Derived.RangeFuncIn
import Derived.RangeFuncCalls
import Derived.TacticsIn
set_option linter.unusedVariables false
set_option linter.unusedSimpArgs false
namespace Go.Ev
variable {D : List Deferred}
variable {P : Program} {pr : Prims} {ih : Rn} {e : Env} {t : T V} {h : H} {s : Nat} {w : World} {a : Act} {r : RO} {k : K} {o : Oper}
theorem LR.trans {e1 : Env} {s1 : Nat} {h1 : H} {w1 : World} (p : Post e s h w e1 s1 h1 w1) : ∀ {r : RO} {x : Exit} {a' : Act} {w' : World}, LR D r e1 s1 h1 w1 x a' w' → LR D r e s h w x a' w'
  | .norm .., _, _, _, q => by obtain ⟨g1, e', g2, g3⟩ := q; exact ⟨g1, e', g2, p.trans g3⟩
  | .exit .., _, _, _, q => by obtain ⟨g1, e', g2, g3⟩ := q; exact ⟨g1, e', g2, p.trans g3⟩
  | .ret .., _, _, _, q => by obtain ⟨g1, e', g2, g3⟩ := q; exact ⟨g1, e', g2, p.trans g3⟩
  | .err _, _, _, _, q => q
  | .or p1 p2, _, _, _, q => q.imp (LR.trans p) (LR.trans p)
theorem want_ok {all : List Oper} (ha : TR e t a.tmps) : Region.wanted o (yielded all.toArray a.tmps) = want all t o.guard := by
  unfold Region.wanted want
  cases hg : o.guard with
  | none => rfl
  | some p =>
    obtain ⟨j, b⟩ := p
    simp only
    unfold yielded
    have hj : all.toArray[j]? = all[j]? := by simp
    rw [hj]
    cases hd : all.drop j with
    | nil =>
      have : all[j]? = none := by
        rw [List.getElem?_eq_none_iff]
        have := congrArg List.length hd
        simp at this
        omega
      rw [this]; rfl
    | cons q rest =>
      have : all[j]? = some q := by
        have := congrArg (fun l => l[0]?) hd
        simpa using this
      rw [this]
      simp only [Option.bind_some]
      cases hq : q.dst with
      | none => rfl
      | some d =>
        simp only [Option.bind_some]
        have hv := ha.val d
        cases hx : a.tmps[d]? with
        | none =>
          have : a.tmps.getD d undef = undef := by simp [Array.getD_eq_getD_getElem?, hx]
          rw [this] at hv
          cases hgt : t.get un d with
          | bool c => rw [hgt] at hv; cases hv
          | _ => rfl
        | some x =>
          have : a.tmps.getD d undef = x := by simp [Array.getD_eq_getD_getElem?, hx]
          rw [this] at hv
          cases hgt : t.get un d with
          | bool c =>
            rw [hgt] at hv
            cases hv
            cases c <;> cases b <;> rfl
          | opq =>
            rw [hgt] at hv
            cases hv with
            | opq _ hb => cases x <;> first | rfl | exact absurd rfl (hb _)
          | _ =>
            rw [hgt] at hv
            cases hv <;> rfl
/-- A fence that forbids nothing. -/
structure FW (P : Program) (F : Fence) : Prop where
  fn : ∀ f, F.fn f
  dep : F.depth = none
  calls : ∀ {f args w R}, Calls P f args w R → CallsIn F 0 P f args w R
theorem FW.wide : FW P Fence.wide := ⟨fun _ => trivial, rfl, fun h => callsIn_wide.2 h⟩
theorem FW.round (l : Nat) : FW P (Fence.wide.inRound l) := ⟨fun _ => trivial, rfl, fun h => CallsIn.inRound l (callsIn_wide.2 h)⟩
/-- An operation, with all that may follow. -/
abbrev Wp1 (F : Fence) (P : Program) (o : Oper) (a : Act) (w : World) (R : Value → World → Prop) : Prop :=
  ∀ (next : Act → World → Prop) (Q : Exit → Act → World → Prop), (∀ x w', R x w' → next (a.put o.dst x) w') → o.wpIn F 0 P a w next Q
variable {F : Fence}
theorem wp1_of_gives {R : Value → World → Prop} (hF : FW P F) (hd : F.round = none ∨ ∀ c, o.op ≠ .defer c) (hg : Gives P (execOp a.eval o) w R) : Wp1 F P o a w R := fun next Q hn => by
  refine ⟨fun f _ => hF.fn f, ?_⟩
  have hsem : o.semAt F.round a.eval = execOp a.eval o := by
    rcases hd with hd | hd
    · rw [hd]; exact Oper.semAt_none _ _
    · cases hr : F.round with
      | none => exact Oper.semAt_none _ _
      | some l => exact Oper.semAt_some l _ _ hd
  rw [hsem]
  unfold Gives at hg
  generalize (execOp a.eval o).run P w = res at *
  cases res with
  | halt x w' => cases x <;> exact hg.elim
  | ok n w' =>
    cases n with
    | value x => exact hn _ _ hg
    | skip => exact hn _ _ hg
    | enter f args => exact ⟨fun h => (by rw [hF.dep] at h; cases h), hF.calls (Calls.mono hg (fun en w'' ⟨x, he, hr⟩ => by subst he; exact hn _ _ hr))⟩
    | _ => exact hg.elim
/-- What is asked of rounds. -/
def YlOk (F : Fence) (P : Program) (yl : Nat → List V → H → Nat → K → RO) : Prop := ∀ b args h s k, (yl b args h s k).good → ∀ e w xs, VRs e args xs → Sim e h w → Free e s → ∀ n sh sz, e b = some ⟨n, sh, sz⟩ →
  F.round = none ∧ ∃ fn tm as bd, (Instr.yield n ⟨xs⟩).run P w = .ok (.round n fn tm as bd) w ∧ RoundIn F 0 P n fn tm as bd w (fun en w' => ∃ x, en = .returned x ∧ GoodK k (yl b args h s k) e s h w x w')
theorem noYl_ok : YlOk F P noYl := fun b args h s k hr => hr.elim
theorem opers1_ok {yl : Nat → List V → H → Nat → K → RO} (hF : FW P F) (hyl : YlOk F P yl) (hih : SoundRn P ih) (hpr : SoundPr P pr) (hd : F.round = none ∨ ∀ c, o.op ≠ .defer c) (hk : opers1 yl o P pr ih t h s k = r) (hr : r.good) (ha : AR D e t a) (hs : Sim e h w) (hf : Free e s) :
    Wp1 F P o a w (GoodK k r e s h w) := by
  unfold opers1 at hk
  split at hk
  · rename_i op ty x y yt ho
    obtain ⟨v, hk, hv⟩ := opnd_ok (a := a) hk hr ha
    obtain ⟨u, hk, hu⟩ := opnd_ok (a := a) hk hr ha
    cases hub : ubin op v u with
    | true =>
      rw [hub] at hk
      dsimp only at hk
      obtain ⟨b, hb⟩ := ubin_ok (P := P) (w := w) (ty := ty) (xo := x) (yo := y) hub hv hu
      refine wp1_of_gives hF hd (gives_value (x := .bool b) (w' := w) ?_ ?_)
      · simp only [execOp, ho]; exact run_v hb
      · subst hk
        cases b with
        | true => exact ⟨.bool true, h, s, .left (.refl _), e, .bool _, Post.refl hs hf⟩
        | false => exact ⟨.bool false, h, s, .right (.refl _), e, .bool _, Post.refl hs hf⟩
    | false =>
      rw [hub] at hk
      dsimp only at hk
      obtain ⟨z, zv, g1, g2, g3⟩ := vbin_ok (w := w) (xo := x) (yo := y) hk hr hv hu
      refine wp1_of_gives hF hd (gives_value (x := zv) (w' := w) ?_ ⟨z, h, s, g1 ▸ .refl _, e, g2, Post.refl hs hf⟩)
      simp only [execOp, ho]; exact run_v g3
  · rename_i c ho
    split at hk
    · rename_i x hcal
      obtain ⟨fv, hk, hfv⟩ := opnd_ok (a := a) hk hr ha
      split at hk
      · rename_i b
        obtain ⟨args, hk, hargs⟩ := opnds_ok (a := a) hk hr ha
        generalize hc : a.eval x = cv at hfv
        cases hfv with
        | @yld _ n sh sz hb =>
          subst hk
          obtain ⟨hro, fn, tm, as, bd, k1, k2⟩ := hyl b args h s k hr e w _ hargs hs hf _ _ _ hb
          intro next Q hn
          refine ⟨fun f _ => hF.fn f, ?_⟩
          rw [hro, Oper.semAt_none]
          have hmap : (c.args.map a.eval) = ⟨c.args.toList.map a.eval⟩ := by apply Array.ext'; simp
          have hx : (execOp a.eval o).run P w = .ok (.round n fn tm as bd) w := by
            simp only [execOp, ho, resolve, hcal, hc, Deferred.ofValue, Sem.run_bind, Sem.run_pure, Result.andThen, invoke, hmap]
            have e1 : (#[] : Array Value) ++ (⟨c.args.toList.map a.eval⟩ : Array Value) = ⟨c.args.toList.map a.eval⟩ := by apply Array.ext'; simp
            rw [e1]
            exact k1
          rw [hx]
          exact ⟨fun h => (by rw [hF.dep] at h; cases h), RoundIn.mono k2 (fun en w' ⟨x, he, hg⟩ => by subst he; exact hn _ _ hg)⟩
      · exact wp1_of_gives hF hd (oCall_ok hk hr hih hpr ha hs hf ho)
    · exact wp1_of_gives hF hd (oCall_ok hk hr hih hpr ha hs hf ho)
  · exact wp1_of_gives hF hd (opF_ok hk hr hih hpr ha hs hf)
theorem opersY_ok {yl : Nat → List V → H → Nat → K → RO} {all : List Oper} (hF : FW P F) (hyl : YlOk F P yl) (hih : SoundRn P ih) (hpr : SoundPr P pr) (hd : F.round = none ∨ ∀ o ∈ all, ∀ c, o.op ≠ .defer c) : ∀ (l pre : List Oper), all = pre ++ l → ∀ t h s, (opersY yl all P pr ih l t h s).good → ∀ e a w, AR D e t a → Sim e h w → Free e s →
    ∀ Q : Exit → Act → World → Prop, (∀ x a' w', LR D (opersY yl all P pr ih l t h s) e s h w x a' w' → Q x a' w') → wpOpsIn F 0 P all.toArray Q (List.range' pre.length l.length) a w
  | [], pre, hall, t, h, s, hr, e, a, w, ha, hs, hf, Q, hQ => hQ _ _ _ ⟨rfl, e, ha, Post.refl hs hf⟩
  | o :: l, pre, hall, t, h, s, hr, e, a, w, ha, hs, hf, Q, hQ => by
    have hget : all.toArray[pre.length]? = some o := by rw [hall]; simp
    have hall' : all = (pre ++ [o]) ++ l := by rw [hall]; simp
    have e0 : ∀ t h s, opersY yl all P pr ih (o :: l) t h s = bif want all t o.guard then opers1 yl o P pr ih t h s (fun v h s => opersY yl all P pr ih l (putT o.dst t v) h s) else opersY yl all P pr ih l (putT o.dst t un) h s := fun _ _ _ => rfl
    rw [e0] at hr hQ
    have hrange : List.range' pre.length (o :: l).length = pre.length :: List.range' (pre ++ [o]).length l.length := by
      simp [List.range'_succ]
    rw [hrange]
    unfold wpOpsIn
    rw [hget]
    simp only
    rw [want_ok (all := all) ha.tr]
    cases hw : want all t o.guard with
    | true =>
      rw [hw] at hr hQ
      simp only [cond_true, if_true] at hr hQ ⊢
      have hd' : F.round = none ∨ ∀ c, o.op ≠ .defer c := hd.imp id (fun h => h o (by rw [hall]; simp))
      refine opers1_ok (o := o) hF hyl hih hpr hd' rfl hr ha hs hf _ _ (fun x w' hx => ?_)
      obtain ⟨v, h', s', hsub, e', hv, hp⟩ := hx
      have hr' := hsub.good hr
      exact opersY_ok hF hyl hih hpr hd l (pre ++ [o]) hall' (putT o.dst t v) h' s' hr' e' (a.put o.dst x) w' ((ha.mono hp.le).put hv) hp.sim hp.free Q (fun x a' w' q => hQ _ _ _ (LR.sub hsub (LR.trans hp q)))
    | false =>
      rw [hw] at hr hQ
      simp only [cond_false, if_false, Bool.false_eq_true] at hr hQ ⊢
      exact ⟨fun f _ => hF.fn f, opersY_ok hF hyl hih hpr hd l (pre ++ [o]) hall' (putT o.dst t un) h s hr e (a.put o.dst undef) w (ha.put undef_VR) hs hf Q hQ⟩
/-- The text's order. -/
theorem regionY_ok {yl : Nat → List V → H → Nat → K → RO} {id : Nat} {ops : Array Oper} (hF : FW P F) (hyl : YlOk F P yl) (hih : SoundRn P ih) (hpr : SoundPr P pr) (hd : F.round = none ∨ ∀ o ∈ ops.toList, ∀ c, o.op ≠ .defer c) (hr : (opersY yl ops.toList P pr ih ops.toList t h s).good) (ha : AR D e t a) (hs : Sim e h w) (hf : Free e s) :
    (Code.region id ops false).wpIn F 0 P (LR D (opersY yl ops.toList P pr ih ops.toList t h s) e s h w) a w := by
  refine wpIn_region ?_
  have := opersY_ok (all := ops.toList) hF hyl hih hpr hd ops.toList [] rfl t h s hr e a w ha hs hf _ (fun _ _ _ q => q)
  simpa [List.range_eq_range'] using this
end Go.Ev
namespace Go.Ev
theorem bitB_eq (m i : Nat) : bitB m i = m.testBit i := by
  unfold bitB
  rw [beq_eq, Nat.testBit_eq_decide_div_mod_eq]
  have : Nat.land (Nat.shiftRight m i) 1 = m / 2 ^ i % 2 := by
    show (m >>> i) &&& 1 = _
    rw [Nat.and_one_is_mod, Nat.shiftRight_eq_div_pow]
  rw [this]
theorem bindsB_eq (e : Edge) : bindsB e = Region.binds .any e := by
  unfold bindsB Region.binds
  cases e.ground <;> rfl
theorem nthN_zero (x : Nat) (l : List Nat) : nthN (x :: l) 0 = x := rfl
theorem nthN_succ (x : Nat) (l : List Nat) (i : Nat) : nthN (x :: l) (i + 1) = nthN l i := rfl
theorem nthN_eq : ∀ (l : List Nat) (i : Nat), nthN l i = l.getD i 0
  | [], i => by simp [nthN]
  | x :: l, 0 => rfl
  | x :: l, i + 1 => by rw [nthN_succ, nthN_eq l i]; simp
theorem maskOf_bit {acc : List Nat} {i : Nat} : ∀ {l : List Edge}, (maskOf acc l).testBit i = true → ∃ e ∈ l, Region.binds .any e = true ∧ (e.on = i ∨ (nthN acc e.on).testBit i = true)
  | [], h => by simp [maskOf] at h
  | e :: l, h => by
    change (bif bindsB e then Nat.lor (Nat.lor (Nat.pow 2 e.on) (nthN acc e.on)) (maskOf acc l) else maskOf acc l).testBit i = true at h
    cases hb : bindsB e with
    | false =>
      rw [hb] at h
      obtain ⟨e', h1, h2⟩ := maskOf_bit h
      exact ⟨e', List.mem_cons_of_mem _ h1, h2⟩
    | true =>
      rw [hb] at h
      simp only [cond_true] at h
      have h : ((2 ^ e.on ||| nthN acc e.on) ||| maskOf acc l).testBit i = true := h
      rw [Nat.testBit_or, Nat.testBit_or, Bool.or_eq_true, Bool.or_eq_true] at h
      rcases h with (h | h) | h
      · refine ⟨e, List.mem_cons_self, by rw [← bindsB_eq]; exact hb, .inl ?_⟩
        rw [Nat.testBit_two_pow] at h
        simpa using h
      · exact ⟨e, List.mem_cons_self, by rw [← bindsB_eq]; exact hb, .inr h⟩
      · obtain ⟨e', h1, h2⟩ := maskOf_bit h
        exact ⟨e', List.mem_cons_of_mem _ h1, h2⟩
theorem masks_keep : ∀ (l : List Oper) (acc : List Nat) (i : Nat), i < acc.length → nthN (masks l acc) i = nthN acc i
  | [], acc, i, h => rfl
  | o :: l, acc, i, h => by
    show nthN (masks l (acc ++ [maskOf acc o.after.toList])) i = _
    rw [masks_keep l _ i (by simp; omega), nthN_eq, nthN_eq]
    simp [List.getD, List.getElem?_append_left h]
theorem masks_at : ∀ (l pre : List Oper) (acc : List Nat), acc.length = pre.length → ∀ (j : Nat) (o : Oper), l[j]? = some o →
    ∃ acc', acc'.length = pre.length + j ∧ nthN (masks l acc) (pre.length + j) = maskOf acc' o.after.toList ∧ ∀ i, i < pre.length + j → nthN acc' i = nthN (masks l acc) i
  | [], pre, acc, ha, j, o, h => by simp at h
  | p :: l, pre, acc, ha, 0, o, h => by
    simp at h; subst h
    refine ⟨acc, by simpa using ha, ?_, fun i hi => ?_⟩
    · show nthN (masks l (acc ++ [maskOf acc p.after.toList])) _ = _
      rw [masks_keep l _ _ (by simp; omega), nthN_eq]
      simp [List.getD, ← ha]
    · show _ = nthN (masks l (acc ++ [maskOf acc p.after.toList])) _
      rw [masks_keep l _ _ (by simp; omega), nthN_eq, nthN_eq]
      simp [List.getD, List.getElem?_append_left (show i < acc.length by omega)]
  | p :: l, pre, acc, ha, j + 1, o, h => by
    obtain ⟨acc', h1, h2, h3⟩ := masks_at l (pre ++ [p]) (acc ++ [maskOf acc p.after.toList]) (by simp [ha]) j o (by simpa using h)
    have e1 : (pre ++ [p]).length + j = pre.length + (j + 1) := by simp; omega
    rw [e1] at h1 h2 h3
    exact ⟨acc', h1, h2, h3⟩
theorem edgesIn_ok {n : Nat} : ∀ {l : List Edge}, edgesIn n l = true → ∀ e ∈ l, Region.binds .any e = true → e.on < n
  | [], h, e, he, hb => by cases he
  | x :: l, h, e, he, hb => by
    change (bif bindsB x then (bif Nat.ble (x.on + 1) n then edgesIn n l else false) else edgesIn n l) = true at h
    cases hx : bindsB x with
    | true =>
      rw [hx] at h
      simp only [cond_true] at h
      cases hn : Nat.ble (x.on + 1) n with
      | false => rw [hn] at h; cases h
      | true =>
        rw [hn] at h
        rcases List.mem_cons.1 he with rfl | he
        · exact Nat.le_of_ble_eq_true hn
        · exact edgesIn_ok h e he hb
    | false =>
      rw [hx] at h
      rcases List.mem_cons.1 he with rfl | he
      · rw [bindsB_eq, hb] at hx; cases hx
      · exact edgesIn_ok h e he hb
theorem edgesOk_ok : ∀ {l : List Oper} {i : Nat}, edgesOk l i = true → ∀ j o, l[j]? = some o → ∀ e ∈ o.after, Region.binds .any e = true → e.on < i + j
  | [], i, h, j, o, ho, e, he, hb => by simp at ho
  | p :: l, i, h, j, o, ho, e, he, hb => by
    change (bif edgesIn i p.after.toList then edgesOk l (i + 1) else false) = true at h
    cases hp : edgesIn i p.after.toList with
    | false => rw [hp] at h; cases h
    | true =>
      rw [hp] at h
      cases j with
      | zero => simp at ho; subst ho; simpa using edgesIn_ok hp e (by simpa using he) hb
      | succ j => have := edgesOk_ok h j o (by simpa using ho) e he hb; omega
theorem memN_ok {x : Nat} : ∀ {l : List Nat}, x ∈ l → memN x l = true
  | [], h => by cases h
  | y :: l, h => by
    show (bif Nat.beq x y then true else memN x l) = true
    rcases List.mem_cons.1 h with rfl | h
    · rw [beq_eq]; simp
    · rw [memN_ok h]; cases Nat.beq x y <;> rfl
/-- What is asked of two operations. -/
structure Pair (o : Oper) (lk : List Nat) (m j : Nat) (p : Oper) (i : Nat) : Prop where
  look : ∀ d, p.dst = some d → d ∈ lk → m.testBit i = true
  dst : ∀ d, o.dst = some d → p.dst ≠ some d
  eff : i < j → cls o.op = 3 → cls p.op = 3 → m.testBit i = true
theorem pairOk_ok {o : Oper} {lk : List Nat} {m j : Nat} : ∀ {l : List Oper} {n : Nat}, pairOk lk o.dst (cls o.op) m j l n = true → ∀ i p, l[i]? = some p → n + i ≠ j → Pair o lk m j p (n + i)
  | [], n, h, i, p, hp, hne => by simp at hp
  | q :: l, n, h, i, p, hp, hne => by
    change (bif Nat.beq n j then pairOk lk o.dst (cls o.op) m j l (n + 1) else
      bif (match q.dst with | some e => (bif memN e lk && not (bitB m n) then false else (match o.dst with | some d => not (Nat.beq d e) | none => true)) | none => true) &&
        not (Nat.ble (n + 1) j && Nat.beq (cls o.op) 3 && Nat.beq (cls q.op) 3 && not (bitB m n)) then pairOk lk o.dst (cls o.op) m j l (n + 1) else false) = true at h
    have hrest : pairOk lk o.dst (cls o.op) m j l (n + 1) = true := by
      revert h
      cases Nat.beq n j with
      | true => exact id
      | false =>
        intro h
        simp only [cond_false] at h
        revert h
        generalize ((match q.dst with | some e => (bif memN e lk && not (bitB m n) then false else (match o.dst with | some d => not (Nat.beq d e) | none => true)) | none => true) && not (Nat.ble (n + 1) j && Nat.beq (cls o.op) 3 && Nat.beq (cls q.op) 3 && not (bitB m n))) = c
        cases c with
        | true => exact id
        | false => intro h; cases h
    cases i with
    | succ i =>
      have := pairOk_ok (n := n + 1) hrest i p (by simpa using hp) (by omega)
      rw [show n + (i + 1) = n + 1 + i by omega]; exact this
    | zero =>
      simp at hp
      subst hp
      have hnj : Nat.beq n j = false := by rw [beq_eq]; simp; omega
      rw [hnj] at h
      simp only [cond_false] at h
      generalize hc : ((match q.dst with | some e => (bif memN e lk && not (bitB m n) then false else (match o.dst with | some d => not (Nat.beq d e) | none => true)) | none => true) && not (Nat.ble (n + 1) j && Nat.beq (cls o.op) 3 && Nat.beq (cls q.op) 3 && not (bitB m n))) = c at h
      cases c with
      | false => cases h
      | true =>
        obtain ⟨g1, g2⟩ := and2 hc
        refine ⟨fun d hd hm => ?_, fun d ho hd => ?_, fun hlt h1 h2 => ?_⟩
        · rw [hd] at g1
          simp only [memN_ok hm, bitB_eq, Bool.true_and] at g1
          cases hb : m.testBit (n + 0) with
          | true => rfl
          | false => rw [Nat.add_zero] at hb; rw [hb] at g1; cases g1
        · rw [hd, ho] at g1
          dsimp only at g1
          rw [beq_eq] at g1
          revert g1
          cases (memN d lk && !bitB m n) <;> simp
        · rw [h1, h2, ble_eq, beq_eq, bitB_eq] at g2
          simpa [show n + 1 ≤ j by omega] using g2
theorem pairsOk_ok {all : List Oper} {mks : List Nat} : ∀ {l : List Oper} {n : Nat}, pairsOk all mks l n = true → ∀ j o, l[j]? = some o → ∀ i p, all[i]? = some p → i ≠ n + j → Pair o (looks all o) (nthN mks (n + j)) (n + j) p i
  | [], n, h, j, o, ho, i, p, hp, hne => by simp at ho
  | q :: l, n, h, j, o, ho, i, p, hp, hne => by
    change (bif pairOk (looks all q) q.dst (cls q.op) (nthN mks n) n all 0 then pairsOk all mks l (n + 1) else false) = true at h
    cases hq : pairOk (looks all q) q.dst (cls q.op) (nthN mks n) n all 0 with
    | false => rw [hq] at h; cases h
    | true =>
      rw [hq] at h
      cases j with
      | zero => simp at ho; subst ho; have := pairOk_ok hq i p hp (by omega); simpa using this
      | succ j =>
        have := pairsOk_ok (n := n + 1) h j o (by simpa using ho) i p hp (by omega)
        rw [show n + (j + 1) = n + 1 + j by omega]; exact this
/-- A region that is followed. -/
structure Drawn (all : List Oper) : Prop where
  edge : ∀ j o, all[j]? = some o → ∀ e ∈ o.after, Region.binds .any e = true → e.on < j
  pair : ∀ j o, all[j]? = some o → ∀ i p, all[i]? = some p → i ≠ j → Pair o (looks all o) (nthN (masks all []) j) j p i
theorem drawOk_ok {all : List Oper} (h : drawOk all = true) : Drawn all := by
  unfold drawOk at h
  cases h1 : edgesOk all 0 with
  | false => rw [h1] at h; cases h
  | true =>
    rw [h1] at h
    exact ⟨fun j o ho e he hb => by simpa using edgesOk_ok h1 j o ho e he hb, fun j o ho i p hp hne => by simpa using pairsOk_ok h j o ho i p hp (by omega)⟩
/-- Every operation that has come up has those before it that it waits for. -/
def Closed (all : List Oper) (L : Nat → Bool) : Prop := ∀ j o, all[j]? = some o → L j = true → ∀ e ∈ o.after, Region.binds .any e = true → L e.on = true
theorem mask_listed {all : List Oper} (hd : Drawn all) {L : Nat → Bool} (cl : Closed all L) : ∀ (n j : Nat) (o : Oper), j < n → all[j]? = some o → (∀ e ∈ o.after, Region.binds .any e = true → L e.on = true) → ∀ i, (nthN (masks all []) j).testBit i = true → L i = true ∧ i < j
  | 0, j, o, hj, ho, hr, i, hi => by omega
  | n + 1, j, o, hj, ho, hr, i, hi => by
    obtain ⟨acc, h1, h2, h3⟩ := masks_at all [] [] rfl j o ho
    simp only [List.length_nil, Nat.zero_add] at h1 h2 h3
    rw [h2] at hi
    obtain ⟨e, he, hb, h4⟩ := maskOf_bit hi
    have he' : e ∈ o.after := by simpa using he
    have hlt := hd.edge j o ho e he' hb
    have hL := hr e he' hb
    rcases h4 with rfl | h4
    · exact ⟨hL, hlt⟩
    · rw [h3 e.on hlt] at h4
      have hlen : e.on < all.length := by have := (List.getElem?_eq_some_iff.1 ho).1; omega
      obtain ⟨o', ho'⟩ : ∃ o', all[e.on]? = some o' := ⟨all[e.on], by simp [hlen]⟩
      obtain ⟨g1, g2⟩ := mask_listed hd cl n e.on o' (by omega) ho' (fun e' he' hb' => cl e.on o' ho' hL e' he' hb') i h4
      exact ⟨g1, by omega⟩
end Go.Ev
namespace Go.Ev
variable {D : List Deferred}
variable {P : Program} {pr : Prims} {ih : Rn} {e : Env} {t t' : T V} {h : H} {s : Nat} {w : World} {a : Act} {r : RO} {k : K} {o : Oper}
theorem ceq_ok {x y : V} (h : ceq x y = true) : x = y := by
  unfold ceq at h
  split at h
  · rename_i k1 a k2 b
    cases hk : keq k1 k2 with
    | false => rw [hk] at h; cases h
    | true =>
      rw [hk] at h
      rw [keq_eq hk]
      simp only [cond_true, ieq_eq] at h
      have : a = b := by simpa using h
      rw [this]
  · rename_i a b; cases a <;> cases b <;> first | rfl | cases h
  · rw [ba_eq h]
  · rfl
  · obtain ⟨h1, h2⟩ := and2 h; rw [Nat.eq_of_beq_eq_true h1, Nat.eq_of_beq_eq_true h2]
  · rfl
  · obtain ⟨h1, h4⟩ := and2 h; obtain ⟨h1, h2, h3⟩ := and3 h1; rw [Nat.eq_of_beq_eq_true h1, Nat.eq_of_beq_eq_true h2, Nat.eq_of_beq_eq_true h3, Nat.eq_of_beq_eq_true h4]
  · obtain ⟨h1, h4⟩ := and2 h; obtain ⟨h1, h2, h3⟩ := and3 h1; rw [Nat.eq_of_beq_eq_true h1, Nat.eq_of_beq_eq_true h2, Nat.eq_of_beq_eq_true h3, Nat.eq_of_beq_eq_true h4]
  · rfl
  · rw [Nat.eq_of_beq_eq_true h]
  · rfl
  · rw [Nat.eq_of_beq_eq_true h]
  · rfl
  · rename_i k1 a k2 b
    cases hk : keq k1 k2 with
    | false => rw [hk] at h; cases h
    | true => rw [hk] at h; rw [keq_eq hk, sxeq_eq h]
  · rw [sxeqs_eq h]
  · obtain ⟨h1, h2, h3⟩ := and3 h; rw [Nat.eq_of_beq_eq_true h1, Nat.eq_of_beq_eq_true h2, Nat.eq_of_beq_eq_true h3]
  · obtain ⟨h1, h2⟩ := and2 h; rw [Nat.eq_of_beq_eq_true h1, Nat.eq_of_beq_eq_true h2]
  · obtain ⟨h1, h2⟩ := and2 h; rw [Nat.eq_of_beq_eq_true h1, Nat.eq_of_beq_eq_true h2]
  · rename_i k1 a b k2 a2 b2
    obtain ⟨h1, h2, h3⟩ := and3 h
    rw [ieq_eq] at h2 h3
    have e1 : a = a2 := by simpa using h2
    have e2 : b = b2 := by simpa using h3
    rw [keq_eq h1, e1, e2]
  · rfl
  · cases h
theorem ceqs_ok : ∀ {l m : List V}, ceqs l m = true → l = m
  | [], [], h => rfl
  | [], y :: m, h => by cases h
  | x :: l, [], h => by cases h
  | x :: l, y :: m, h => by
    change (bif ceq x y then ceqs l m else false) = true at h
    cases hc : ceq x y with
    | false => rw [hc] at h; cases h
    | true => rw [hc] at h; rw [ceq_ok hc, ceqs_ok h]
theorem veqB_ok {x y : V} (h : veqB x y = true) : x = y := by
  unfold veqB at h
  split at h
  · rw [ceqs_ok h]
  · rw [ceqs_ok h]
  · rename_i t v u w
    cases hc : Nat.beq t u with
    | false => rw [hc] at h; cases h
    | true => rw [hc] at h; rw [Nat.eq_of_beq_eq_true hc, ceq_ok h]
  · exact ceq_ok h
theorem opnd_congr {x : Operand} (hx : ∀ u, x = .tmp u → t.get un u = t'.get un u) (f : V → RO) : opnd t x f = opnd t' x f := by
  cases x with
  | tmp u => simp only [opnd]; rw [hx u rfl]
  | const v => rfl
  | global g => rfl
  | func f => rfl
theorem opnds_congr : ∀ {l : List Operand}, (∀ x ∈ l, ∀ f, opnd t x f = opnd t' x f) → ∀ f, opnds t l f = opnds t' l f
  | [], _, f => rfl
  | x :: l, hx, f => by
    show opnd t x (fun v => opnds t l (fun vs => f (v :: vs))) = opnd t' x (fun v => opnds t' l (fun vs => f (v :: vs)))
    rw [hx x (by simp)]
    congr 1; funext v
    exact opnds_congr (fun y hy => hx y (by simp [hy])) _
theorem opparts_congr : ∀ {l : List (Nat × Operand)}, (∀ x ∈ l, ∀ f, opnd t x.2 f = opnd t' x.2 f) → ∀ f, opparts t l f = opparts t' l f
  | [], _, f => rfl
  | x :: l, hx, f => by
    show opnd t x.2 (fun v => opparts t l (fun vs => f ((x.1, v) :: vs))) = opnd t' x.2 (fun v => opparts t' l (fun vs => f ((x.1, v) :: vs)))
    rw [hx x (by simp)]
    congr 1; funext v
    exact opparts_congr (fun y hy => hx y (by simp [hy])) _
theorem bound_congr {x : Option Operand} (hx : ∀ y, x = some y → ∀ f, opnd t y f = opnd t' y f) (d : Nat) (f : Nat → RO) : bound t x d f = bound t' x d f := by
  cases x with
  | none => rfl
  | some y => simp only [bound]; rw [hx y rfl]
/-- An operation leans on its operands alone. -/
theorem opF_congr {op : Op} (hA : ∀ x ∈ op.operands.toList, ∀ f, opnd t x f = opnd t' x f) : opF op P pr ih t h s k = opF op P pr ih t' h s k := by
  cases op
  case move x => have h1 := hA x (by simp [Op.operands]); simp only [opF, oMove, h1]
  case assign x => have h1 := hA x (by simp [Op.operands]); simp only [opF, oMove, h1]
  case pick c x y =>
    have h1 := hA c (by simp [Op.operands]); have h2 := hA x (by simp [Op.operands]); have h3 := hA y (by simp [Op.operands])
    simp only [opF, oPick, h1, h2, h3]
  case box e x => have h1 := hA x (by simp [Op.operands]); simp only [opF, oBox, h1]
  case build ty ps =>
    have h1 : ∀ f, opparts t ps.toList f = opparts t' ps.toList f := opparts_congr (fun x hx => hA x.2 (by simp only [Op.operands]; simp; exact ⟨_, by simpa using hx⟩))
    simp only [opF, oBuild, h1]
  case buildSlice ty n ps =>
    have h1 : ∀ f, opparts t ps.toList f = opparts t' ps.toList f := opparts_congr (fun x hx => hA x.2 (by simp only [Op.operands]; simp; exact ⟨_, by simpa using hx⟩))
    simp only [opF, oBuildSlice, h1]
  case load ty x => have h1 := hA x (by simp [Op.operands]); simp only [opF, oLoad, h1]
  case store ty x y => have h1 := hA x (by simp [Op.operands]); have h2 := hA y (by simp [Op.operands]); simp only [opF, oStore, h1, h2]
  case nilCheck x => have h1 := hA x (by simp [Op.operands]); simp only [opF, oNilCheck, h1]
  case binOp op ty x y yt => have h1 := hA x (by simp [Op.operands]); have h2 := hA y (by simp [Op.operands]); simp only [opF, oBin, h1, h2]
  case unOp op ty x => have h1 := hA x (by simp [Op.operands]); simp only [opF, oUn, h1]
  case convert s d x => have h1 := hA x (by simp [Op.operands]); simp only [opF, oConvert, oMark]; cases Nat.beq s d <;> simp only [cond_true, cond_false, oConvert, oMark, h1]
  case makeInterface ty x => have h1 := hA x (by simp [Op.operands]); simp only [opF, oMakeIface, h1]
  case makeFunc fn l m =>
    have h1 : ∀ f, opnds t m.toList f = opnds t' m.toList f := opnds_congr (fun x hx => hA x (by simp only [Op.operands, Array.toList_append, List.mem_append]; exact .inr hx))
    simp only [opF, oMakeFunc, h1]
    split
    · rfl
    · rename_i x hfirst
      have h2 := hA x (by
        simp only [Op.operands, Array.toList_append, List.mem_append]
        exact .inl (by rw [hfirst]; simp))
      simp only [h2]
    · rename_i x hfirst
      have h2 := hA x (by
        simp only [Op.operands, Array.toList_append, List.mem_append]
        exact .inl (by rw [hfirst]; simp))
      simp only [h2]
    · rfl
  case makeSlice ty x y => have h1 := hA x (by simp [Op.operands]); have h2 := hA y (by simp [Op.operands]); simp only [opF, oMakeSlice, h1, h2]
  case slice ty x lo hi mx =>
    have h1 := hA x (by simp [Op.operands])
    have h2 : ∀ d f, bound t lo d f = bound t' lo d f := bound_congr (fun y hy => hA y (by simp [Op.operands, hy]))
    have h3 : ∀ d f, bound t hi d f = bound t' hi d f := bound_congr (fun y hy => hA y (by simp [Op.operands, hy]))
    have h4 : ∀ d f, bound t mx d f = bound t' mx d f := bound_congr (fun y hy => hA y (by simp [Op.operands, hy]))
    simp only [opF, oSlice, h1, h2, h3, h4]
  case fieldAddr ty x i => have h1 := hA x (by simp [Op.operands]); simp only [opF, oFieldAddr, h1]
  case field ty x i => have h1 := hA x (by simp [Op.operands]); simp only [opF, oField, h1]
  case indexAddr ty x y => have h1 := hA x (by simp [Op.operands]); have h2 := hA y (by simp [Op.operands]); simp only [opF, oIndexAddr, h1, h2]
  case index ty x y => have h1 := hA x (by simp [Op.operands]); have h2 := hA y (by simp [Op.operands]); simp only [opF, oIndex, h1, h2]
  case lookup ty x y c => have h1 := hA x (by simp [Op.operands]); have h2 := hA y (by simp [Op.operands]); simp only [opF, oLookup, h1, h2]
  case mapUpdate ty x y z => have h1 := hA x (by simp [Op.operands]); have h2 := hA y (by simp [Op.operands]); have h3 := hA z (by simp [Op.operands]); simp only [opF, oMapUpdate, h1, h2, h3]
  case range ty x => have h1 := hA x (by simp [Op.operands]); simp only [opF, oRange, h1]
  case entry x => have h1 := hA x (by simp [Op.operands]); simp only [opF, oEntry, h1]
  case next x c => have h1 := hA x (by simp [Op.operands]); simp only [opF, oNext, h1]
  case extract x i => have h1 := hA x (by simp [Op.operands]); simp only [opF, oExtract, h1]
  case call c =>
    have h1 : ∀ f, opnds t c.args.toList f = opnds t' c.args.toList f := opnds_congr (fun x hx => hA x (by simp only [Op.operands, Call.operands, Array.toList_append, List.mem_append]; exact .inr hx))
    obtain ⟨cal, args, at_⟩ := c
    cases cal with
    | value x =>
      have h2 := hA x (by simp [Op.operands, Call.operands])
      simp only [opF, oCall, h1, h2]
    | invoke x n =>
      have h2 := hA x (by simp [Op.operands, Call.operands])
      simp only [opF, oCall, h1, h2]
    | builtin b => simp only [opF, oCall, h1]
  all_goals rfl
/-- An operation that reads nothing does not lean on memory. -/
theorem opF_indep {op : Op} (hc : cls op = 0) : opF op P pr ih t h s k = opF op P pr ih t E0 0 (fun v _ _ => k v h s) := by
  cases op <;> first | rfl | (cases hc; done) | skip
  case call c => obtain ⟨cal, args, at_⟩ := c; cases cal with
    | builtin b => cases b <;> cases hc
    | value _ => cases hc
    | invoke _ _ => cases hc
  case convert a b x =>
    cases hq : Nat.beq a b with
    | true => simp [cls, hq] at hc
    | false => simp [cls, hq] at hc
end Go.Ev
