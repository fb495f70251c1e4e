/- An evaluator of the model's code: summaries of calls, by evaluation; a table of them as an operation. An evaluator of the model's code: its memory as an assertion; a summary as a contract upon it. No program in sight. The rows of the services, by evaluation. -/
import Derived.Test.YtnklmadmenkdoaaGreatQEvSm
import Derived.Test.YtnklmadmenkdoaaGreatQStr
import Derived.Test.YtnklmadmenkdoaaGreatProg
import Derived.Test.YtnklmadmenkdoaaGreatQSndA
import Derived.WalkKit
set_option linter.unusedVariables false
set_option linter.unusedSimpArgs false
namespace Go.Ev
open Go.RowKit
variable {P : Program} {pr : Prims} {ih : Rn} {e e' : Env} {t : T V} {h : H} {s : Nat} {w w0 : World} {a : Act} {r : RO} {k : K}
noncomputable def goodB (r : RO) : Bool := RO.rec (motive := fun _ => Bool) (fun _ _ _ => true) (fun _ _ _ _ => true) (fun _ _ _ => true) (fun _ => false) (fun _ _ a b => bif a then b else false) r
theorem goodB_good : ∀ {r : RO}, goodB r = true → r.good
  | .norm .., _ => trivial
  | .exit .., _ => trivial
  | .ret .., _ => trivial
  | .err _, h => by cases h
  | .or a b, h => by
    change (bif goodB a then goodB b else false) = true at h
    cases ha : goodB a with
    | false => rw [ha] at h; cases h
    | true => rw [ha] at h; exact ⟨goodB_good ha, goodB_good h⟩
/-- Each number is called by itself. -/
noncomputable def diagQ (S : Summ) : Rm := ⟨renOf (S.l'.map (fun p => (p.1, p.1))), S.s', some ⟨0, 0, 0⟩, []⟩
theorem N0_get (b : Nat) : N0.get 0 b = 0 := by unfold N0; exact T.get_mk _ _ _ _
theorem getN_set (d : Nat) : ∀ (t : T Nat) (n m x : Nat), (t.set n x).get d m = x ∧ m = n ∨ (t.set n x).get d m = t.get d m := fun t n m x => by
  cases hh : t.has n with
  | true =>
    rw [T.get_set d t n m x hh]
    by_cases hm : m = n
    · rw [if_pos hm]; exact .inl ⟨rfl, hm⟩
    · rw [if_neg hm]; exact .inr rfl
  | false => rw [T.set_off t n x hh]; exact .inr rfl
theorem diag_get : ∀ (l : List Nat) (m : T Nat) (b : Nat), (m.get 0 b = 0 ∨ m.get 0 b = b + 1) → ((l.map (fun b => (b, b))).foldl (fun m p => m.set p.1 (Nat.succ p.2)) m).get 0 b = 0 ∨ ((l.map (fun b => (b, b))).foldl (fun m p => m.set p.1 (Nat.succ p.2)) m).get 0 b = b + 1
  | [], m, b, h => h
  | c :: l, m, b, h => by
    rw [List.map_cons, List.foldl_cons]
    refine diag_get l _ b ?_
    rcases getN_set 0 m c b (Nat.succ c) with ⟨h1, h2⟩ | h1
    · right; rw [h1, h2]
    · rw [h1]; exact h
theorem diagQ_eq {S : Summ} {b' b : Nat} (hr : rn (diagQ S) b' b = true) : b' = b := by
  unfold rn diagQ at hr
  simp only [Bool.and_eq_true] at hr
  have h2 := Nat.eq_of_beq_eq_true hr.2
  have h3 := diag_get (S.l'.map (·.1)) N0 b' (.inl (N0_get b'))
  have e1 : renOf (S.l'.map (fun p => (p.1, p.1))) = ((S.l'.map (·.1)).map (fun b => (b, b))).foldl (fun m p => m.set p.1 (Nat.succ p.2)) N0 := by
    unfold renOf
    rw [List.map_map]; rfl
  rw [← e1] at h3
  rcases h3 with h3 | h3
  · rw [h3] at h2; cases h2
  · rw [h3] at h2; injection h2
/-- What a call leaves lies below what the summary says. -/
noncomputable def sumE (S : Summ) (v : V) (h : H) (s : Nat) : Bool :=
  leV (diagQ S) S.res v && (Nat.ble s S.s' && S.l'.all (fun p => leB (diagQ S) (S.hq.get .gone p.1) (h.get .gone p.1)))
noncomputable def sumK (S : Summ) : K := fun v h s => bif sumE S v h s then .norm .nil E0 0 else .err 270
theorem selfX (S : Summ) (e : Env) : XLe (diagQ S) e e := by
  refine ⟨fun hi v x hv hy => ?_, fun _ _ => rfl, fun _ _ => rfl, fun j hj => ?_⟩
  · exfalso
    unfold xOk diagQ at hy
    dsimp only at hy
    split at hy
    · simp only [Bool.and_eq_true] at hy
      have y3 := Nat.eq_of_beq_eq_true hy.2.2.1
      have y4 := Nat.le_of_ble_eq_true hy.2.2.2.1
      omega
    · simp only [Bool.and_eq_true] at hy
      have y3 := Nat.eq_of_beq_eq_true hy.2.2.1
      have y4 := Nat.le_of_ble_eq_true hy.2.2.2.1
      omega
    · cases hy
    · cases hy
    · cases hy
  · show e.base.ρ j = 0 + (e.base.ρ j + 0); omega
/-- A summary that an evaluation bears out. -/
theorem summ_ok (hih : SoundRn P ih) (hpr : SoundPr P pr) {F : Nat} {S : Summ} (hss : Nat.ble S.s S.s' = true) (hk : goodB (callV F S.args P pr ih S.hp S.s (sumK S)) = true) : SummOk P F S := by
  refine ⟨Nat.le_of_ble_eq_true hss, fun e w xs hx hs hf => ?_⟩
  have hg := goodB_good hk
  obtain ⟨_, hc⟩ := callV_ok rfl hg hih hpr e w xs hx hs hf
  refine Calls.mono hc (fun en w' hq => ?_)
  obtain ⟨x, rfl, v, h', s', hsub, e', hv, hp⟩ := hq
  refine ⟨x, rfl, e', ?_⟩
  have hgood := hsub.good hg
  unfold sumK at hgood
  cases hE : sumE S v h' s' with
  | false => rw [hE] at hgood; exact hgood.elim
  | true =>
    unfold sumE at hE
    simp only [Bool.and_eq_true] at hE
    obtain ⟨k1, k2, k3⟩ := hE
    have k2 := Nat.le_of_ble_eq_true k2
    have hEq : ∀ b' b, rn (diagQ S) b' b = true → e'.f b' = e'.f b := fun b' b hr => by rw [diagQ_eq hr]
    have hB : ∀ b, live S.hq b → leB (diagQ S) (S.hq.get .gone b) (h'.get .gone b) = true := fun b hl => by
      rcases fold_live S.l' E0 b hl with h1 | ⟨p, h1, h2⟩
      · exact (E0_gone b h1).elim
      · have := List.all_eq_true.1 k3 p h1
        rw [h2] at this; exact this
    refine ⟨leV_ok hEq (selfX S e') hv _ k1, ⟨hp.le, hp.low, Nat.le_of_ble_eq_true hss, fun b hb => hp.free b (Nat.le_trans k2 hb), ⟨fun b hl => ?_, fun b c x y hl1 hl2 => ?_, hp.sim.big, hp.sim.old, fun b x hl => ?_⟩, fun b x hl hx => ?_, hp.keep, hp.size, hp.os, hp.tape, hp.output⟩⟩
    · obtain ⟨x, o, g1, g2, g3⟩ := hp.sim.blk b (leB_live (hB b hl))
      exact ⟨x, o, g1, g2, leB_ok hEq (selfX S e') g3 (hB b hl)⟩
    · exact hp.sim.inj b c x y (leB_live (hB b hl1)) (leB_live (hB c hl2))
    · exact hp.sim.above b x (leB_live (hB b hl))
    · exact hp.dom b x (leB_live (hB b hl)) hx
/-- A table of summaries of one function. -/
noncomputable def sumT (args : List V) (h : H) (s : Nat) (k : K) (l : List Summ) : RO := List.rec (motive := fun _ => RO) (.err 271) (fun S _ r => sumQ S args h s k r) l
noncomputable def sumPrs (F : Nat) (l : List Summ) (pr : Prims) : Prims := fun f => bif Nat.beq f F then some (fun args h s k => sumT args h s k l) else pr f
theorem sumT_ok {F : Nat} (hF : isFn P F = true) : ∀ (l : List Summ), (∀ S, S ∈ l → SummOk P F S) → ∀ (args : List V) (h : H) (s : Nat) (k : K), (sumT args h s k l).good → CallOk P F args s h k (sumT args h s k l)
  | [], _, args, h, s, k, hr => hr.elim
  | S :: l, hl, args, h, s, k, hr => by
    change (sumQ S args h s k (sumT args h s k l)).good at hr
    show CallOk P F args s h k (sumQ S args h s k (sumT args h s k l))
    unfold sumQ sumV at hr ⊢
    generalize reach S.hp h 100000 (prs S.args args) N0 [] = vis at hr ⊢
    cases hc : sumC ⟨renOf vis, S.s, some ⟨0, 0, 0⟩, []⟩ (invOf vis) S args h s with
    | false =>
      rw [hc] at hr
      simp only [cond_false] at hr ⊢
      exact sumT_ok hF l (fun S' h' => hl S' (by simp [h'])) args h s k hr
    | true =>
      rw [hc] at hr
      simp only [cond_true] at hr ⊢
      intro e w xs hx hs hf
      unfold isFn at hF
      split at hF
      · rename_i c' n rs hfn
        obtain ⟨_, _, _, _, _, g5⟩ := fnOf_ok hfn
        refine ⟨g5 _ _, Calls.mono (sum_ok (hl S (by simp)) hc hx hs hf) (fun en w' hq => ?_)⟩
        obtain ⟨x, rfl, e2, hv, hp⟩ := hq
        exact ⟨x, rfl, _, _, _, .refl _, e2, hv, hp⟩
      · cases hF
theorem sumPrs_ok {F : Nat} (hF : isFn P F = true) {l : List Summ} (hl : ∀ S, S ∈ l → SummOk P F S) (hpr : SoundPr P pr) : SoundPr P (sumPrs F l pr) := fun f g h => by
  unfold sumPrs at h
  cases hf : Nat.beq f F with
  | false => rw [hf] at h; exact hpr f g h
  | true =>
    rw [hf] at h
    simp only [cond_true] at h
    injection h with h
    have := Nat.eq_of_beq_eq_true hf
    subst this
    subst h
    exact fun args h s k hr => sumT_ok hF l hl args h s k hr
end Go.Ev
namespace Go.Ev
open Go.RowKit Go.Proofs.Num
def rhoN (r : Nat → Int) : Nat → Int := fun j => if j < 1000000 then r j else 0
/-- Numbers that are not known, and nothing else. -/
def numB (r : Nat → Int) : Base := ⟨rhoN r, fun _ => False, fun _ => none, fun _ => none, (fun _ _ _ _ h => by cases h), (fun _ _ _ _ h => by cases h), fun j hj => by unfold rhoN; rw [if_neg (by omega)]; exact ⟨Int.le_refl _, Int.natCast_nonneg _⟩⟩
/-- The evaluator's memory h, where f says. -/
def simP (r : Nat → Int) (f : Nat → Option Loc) (h : H) (s : Nat) : HProp := fun w F => Sim ⟨f, numB r⟩ h w ∧ Free ⟨f, numB r⟩ s ∧ ∀ k, F k ↔ ∃ b x, live h b ∧ f b = some x ∧ x.n = k
theorem simP_stable (r : Nat → Int) (f : Nat → Option Loc) (h : H) (s : Nat) : Stable (simP r f h s) where
  dom := by
    rintro w F ⟨hs, _, hF⟩ k hk
    obtain ⟨b, x, h1, h2, rfl⟩ := (hF k).1 hk
    obtain ⟨y, o, g1, g2, _⟩ := hs.blk b h1
    have e : y = x := by
      have : f b = some y := g1
      rw [h2] at this; injection this with this; exact this.symm
    subst e
    exact lt_of_heap g2
  keep := by
    rintro w w' F S ⟨hs, hf, hF⟩ hk hS
    refine ⟨⟨fun b hb => ?_, hs.inj, fun n hn => hn.elim, fun n hn => hn.elim, fun b x _ _ hn => hn.elim⟩, hf, hF⟩
    obtain ⟨x, o, g1, g2, g3⟩ := hs.blk b hb
    exact ⟨x, o, g1, hk.heap g2 (hS _ ((hF _).2 ⟨b, x, hb, g1, rfl⟩)), g3⟩
/-- A summary, as a contract. -/
theorem sum_spec {P : Program} {F : Nat} {S : Summ} (hS : SummOk P F S) (r : Nat → Int) (f : Nat → Option Loc) {xs : List Value} (hx : VRs ⟨f, numB r⟩ S.args xs) :
    HSpec P F ⟨xs⟩ (simP r f S.hp S.s) (fun a : (Nat → Option Loc) × Value => a.2) (fun a w G => VR ⟨a.1, numB r⟩ S.res a.2 ∧ (∀ b, b < S.s → a.1 b = f b) ∧ simP r a.1 S.hq S.s' w G) := by
  rintro w G ⟨hs, hf, hG⟩
  refine (hS.2 ⟨f, numB r⟩ w xs hx hs hf).mono ?_
  rintro en w' ⟨x, rfl, e', hv, hp⟩
  obtain ⟨f', B'⟩ := e'
  have hb : B' = numB r := hp.le.base
  subst hb
  refine ⟨(f', x), fun k => ∃ b y, live S.hq b ∧ f' b = some y ∧ y.n = k, rfl, ⟨hv, fun b hb => hp.low b hb, hp.sim, hp.free, fun k => Iff.rfl⟩, ⟨hp.os, hp.tape, hp.output, hp.size, fun k hk hg => hp.keep k hk (fun b y h1 h2 h3 => hg ((hG k).2 ⟨b, y, h1, h2, h3⟩))⟩, ?_⟩
  rintro k ⟨b, y, h1, h2, rfl⟩
  rcases hp.dom b y h1 h2 with ⟨b0, x0, q1, q2, q3⟩ | q
  · exact Or.inl ((hG _).2 ⟨b0, x0, q1, q2, q3⟩)
  · exact Or.inr q
mutual
/-- It speaks of blocks below s alone. -/
def lowV (s : Nat) : V → Bool
  | .ptr b _ => Nat.blt b s
  | .sl b _ _ _ => Nat.blt b s
  | .slu b _ _ _ => Nat.blt b s
  | .map b => Nat.blt b s
  | .yld b => Nat.blt b s
  | .fn _ l => lowVs s l
  | .ifc _ v => lowV s v
  | .agg l => lowVs s l
  | .tup l => lowVs s l
  | .mfn _ v => lowV s v
  | .bfn _ v => lowV s v
  | _ => true
def lowVs (s : Nat) : List V → Bool
  | [] => true
  | v :: l => lowV s v && lowVs s l
end
def cutF (s : Nat) (f : Nat → Option Loc) : Nat → Option Loc := fun b => if b < s then f b else none
theorem cutF_some {s : Nat} {f : Nat → Option Loc} {b : Nat} {x : Loc} (h : f b = some x) (hb : Nat.blt b s = true) : cutF s f b = some x := by
  unfold cutF; rw [if_pos (by simpa [Nat.blt_eq] using hb)]; exact h
mutual
theorem VR.low {s : Nat} {f : Nat → Option Loc} {B : Base} : ∀ {v x}, VR ⟨f, B⟩ v x → lowV s v = true → VR ⟨cutF s f, B⟩ v x
  | _, _, .int k n, _ => .int k n
  | _, _, .bool b, _ => .bool b
  | _, _, .str s, _ => .str s
  | _, _, .nilp, _ => .nilp
  | _, _, .ptr h, hl => .ptr (cutF_some h hl)
  | _, _, .nils, _ => .nils
  | _, _, .sl h hl, hq => .sl (cutF_some h hq) hl
  | _, _, .slu h hl hc, hq => .slu (cutF_some h hq) hl hc
  | _, _, .slu0 h hx, hq => .slu0 (cutF_some h hq) hx
  | _, _, .sl0 h, hq => .sl0 (cutF_some h hq)
  | _, _, .nilm, _ => .nilm
  | _, _, .map h, hq => .map (cutF_some h hq)
  | _, _, .nilf, _ => .nilf
  | _, _, .fn h, hq => .fn (VRs.low h hq)
  | _, _, .nili, _ => .nili
  | _, _, .ifc h, hq => .ifc (VR.low h hq)
  | _, _, .agg h, hq => .agg (VRs.low h hq)
  | _, _, .tup h, hq => .tup (VRs.low h hq)
  | _, _, .yld h, hq => .yld (cutF_some h hq)
  | _, _, .mfn h, hq => .mfn (VR.low h hq)
  | _, _, .bfn h, hq => .bfn (VR.low h hq)
  | _, _, .iv h1 h2, _ => .iv h1 h2
  | _, _, .opq h hb, _ => .opq h hb
  | _, _, .usl h1 h2, _ => .usl h1 h2
  | _, _, .sx h hw, _ => .sx h hw
  | _, _, .ss h, _ => .ss h
  | _, _, .xsl h hl hc, _ => .xsl h hl hc
  | _, _, .xp h hl, _ => .xp h hl
  | _, _, .xsu h hl ha, _ => .xsu h hl ha
theorem VRs.low {s : Nat} {f : Nat → Option Loc} {B : Base} : ∀ {l xs}, VRs ⟨f, B⟩ l xs → lowVs s l = true → VRs ⟨cutF s f, B⟩ l xs
  | _, _, .nil, _ => .nil
  | _, _, .cons h t, hq => by
    unfold lowVs at hq
    rw [Bool.and_eq_true] at hq
    exact .cons (VR.low h hq.1) (VRs.low t hq.2)
end
def lowEs (s : Nat) : List (V × V × Nat) → Bool
  | [] => true
  | (k, v, _) :: l => lowV s k && (lowV s v && lowEs s l)
theorem ER.low {s : Nat} {f : Nat → Option Loc} {B : Base} : ∀ {l es}, ER ⟨f, B⟩ l es → lowEs s l = true → ER ⟨cutF s f, B⟩ l es
  | _, _, .nil, _ => .nil
  | _, _, .cons hk hv t, hq => by
    unfold lowEs at hq
    simp only [Bool.and_eq_true] at hq
    exact .cons (VR.low hk hq.1) (VR.low hv hq.2.1) (ER.low t hq.2.2)
noncomputable def lowB (s : Nat) : B → Bool
  | .cells t n => (List.range n).all (fun i => lowV s (t.get un i))
  | .map es _ => lowEs s es
  | .gone => true
  | _ => false
theorem BR.low {s : Nat} {f : Nat → Option Loc} {B' : Base} {x : Loc} {b : B} {o : Obj} (h : BR ⟨f, B'⟩ x b o) (hl : lowB s b = true) : BR ⟨cutF s f, B'⟩ x b o := by
  cases h with
  | @cells n sh sz t m c el fr hs hm hc hh hfr =>
    refine .cells hs hm (fun i hi => ?_) hh hfr
    obtain ⟨y, q1, q2⟩ := hc i hi
    exact ⟨y, q1, VR.low q2 (List.all_eq_true.1 hl i (List.mem_range.2 hi))⟩
  | map h => exact .map (ER.low h hl)
  | iter0 => cases hl
  | iter h => cases hl
  | loop h1 h2 h3 h4 h5 h6 h7 => cases hl
/-- Numbers from s on are not needed. -/
theorem simP.cut {r : Nat → Int} {f : Nat → Option Loc} {h : H} {s s' : Nat} {w : World} {F : Nat → Prop} (hs : simP r f h s' w F) (hl : ∀ b, live h b → b < s ∧ lowB s (h.get .gone b) = true) : simP r (cutF s f) h s w F := by
  obtain ⟨h1, h2, h3⟩ := hs
  have he : ∀ b, b < s → cutF s f b = f b := fun b hb => by unfold cutF; rw [if_pos hb]
  refine ⟨⟨fun b hb => ?_, fun b b' x x' hb hb' hx hx' hn => ?_, fun n hn => hn.elim, fun n hn => hn.elim, fun b x _ _ hn => hn.elim⟩, fun b hb => ?_, fun k => ?_⟩
  · obtain ⟨x, o, g1, g2, g3⟩ := h1.blk b hb
    exact ⟨x, o, (he b (hl b hb).1).trans g1, g2, g3.low (hl b hb).2⟩
  · replace hx : f b = some x := (he b (hl b hb).1).symm.trans hx
    replace hx' : f b' = some x' := (he b' (hl b' hb').1).symm.trans hx'
    exact h1.inj b b' x x' hb hb' hx hx' hn
  · show cutF s f b = none
    unfold cutF; rw [if_neg (by omega)]
  · rw [h3 k]
    constructor
    · rintro ⟨b, x, q1, q2, q3⟩; exact ⟨b, x, q1, (he b (hl b q1).1).trans q2, q3⟩
    · rintro ⟨b, x, q1, q2, q3⟩; exact ⟨b, x, q1, (he b (hl b q1).1).symm.trans q2, q3⟩
/-- Blocks known whole as the evaluator's memory. -/
theorem blks_spec : ∀ (L : List (Nat × Obj)) (w : World) (F : Nat → Prop), stars (L.map (fun p => blkP p.1 p.2)) w F → (∀ p ∈ L, w.heap[p.1]? = some p.2) ∧ (∀ k, F k ↔ ∃ p ∈ L, p.1 = k) ∧ (L.map (·.1)).Nodup
  | [], w, F, h => ⟨by simp, fun k => ⟨fun hk => absurd hk (h k), by simp⟩, by simp⟩
  | p :: L, w, F, h => by
    obtain ⟨F1, F2, ⟨a1, a2⟩, b, hd, hF⟩ := h
    obtain ⟨c1, c2, c3⟩ := blks_spec L w F2 b
    refine ⟨fun q hq => ?_, fun k => ?_, ?_⟩
    · rcases List.mem_cons.1 hq with rfl | hq
      · exact a1
      · exact c1 q hq
    · rw [hF k, a2 k, c2 k]
      constructor
      · rintro (rfl | ⟨q, q1, q2⟩)
        · exact ⟨p, by simp, rfl⟩
        · exact ⟨q, by simp [q1], q2⟩
      · rintro ⟨q, q1, q2⟩
        rcases List.mem_cons.1 q1 with rfl | q1
        · exact Or.inl q2.symm
        · exact Or.inr ⟨q, q1, q2⟩
    · simp only [List.map_cons, List.nodup_cons]
      refine ⟨fun hp => ?_, c3⟩
      obtain ⟨q, q1, q2⟩ := List.mem_map.1 hp
      exact hd p.1 ((a2 _).2 rfl) ((c2 _).2 ⟨q, q1, q2⟩)
def szO : Obj → Nat
  | .cells c _ _ => c.size
  | _ => 0
def locsF (L : List (Nat × Obj)) : Nat → Option Loc := fun b => (L[b]?).map (fun p => ⟨p.1, 0, szO p.2⟩)
theorem simP_of {r : Nat → Int} {L : List (Nat × Obj)} {h : H} {s : Nat} {w : World} {F : Nat → Prop} (hst : stars (L.map (fun p => blkP p.1 p.2)) w F) (hs : L.length ≤ s)
    (hl : ∀ b, live h b ↔ b < L.length) (hb : ∀ b, (hb : b < L.length) → BR ⟨locsF L, numB r⟩ ⟨L[b].1, 0, szO L[b].2⟩ (h.get .gone b) L[b].2) : simP r (locsF L) h s w F := by
  obtain ⟨c1, c2, c3⟩ := blks_spec L w F hst
  have hloc : ∀ b, (hb : b < L.length) → locsF L b = some ⟨L[b].1, 0, szO L[b].2⟩ := fun b hb => by unfold locsF; rw [List.getElem?_eq_getElem hb]; rfl
  have hon : ∀ b x, locsF L b = some x → ∃ hb : b < L.length, x = ⟨L[b].1, 0, szO L[b].2⟩ := fun b x hx => by
    unfold locsF at hx
    rcases Nat.lt_or_ge b L.length with g | g
    · rw [List.getElem?_eq_getElem g] at hx; injection hx with hx; exact ⟨g, hx.symm⟩
    · rw [List.getElem?_eq_none g] at hx; cases hx
  refine ⟨⟨fun b hlv => ?_, fun b b' x x' hb1 hb2 hx hx' hn => ?_, fun n hn => hn.elim, fun n hn => hn.elim, fun b x _ _ hn => hn.elim⟩, fun b hbs => ?_, fun k => ?_⟩
  · have g := (hl b).1 hlv
    exact ⟨_, _, hloc b g, c1 _ (List.getElem_mem g), hb b g⟩
  · obtain ⟨g, rfl⟩ := hon b x hx
    obtain ⟨g', rfl⟩ := hon b' x' hx'
    have e : (L.map (·.1))[b]'(by simpa using g) = (L.map (·.1))[b']'(by simpa using g') := by simpa using hn
    exact (List.getElem_inj c3).1 e
  · show locsF L b = none
    unfold locsF; rw [List.getElem?_eq_none (by omega)]; rfl
  · rw [c2 k]
    constructor
    · rintro ⟨p, hp, rfl⟩
      obtain ⟨b, g, rfl⟩ := List.getElem_of_mem hp
      exact ⟨b, _, (hl b).2 g, hloc b g, rfl⟩
    · rintro ⟨b, x, q1, q2, rfl⟩
      obtain ⟨g, rfl⟩ := hon b x q2
      exact ⟨L[b], List.getElem_mem g, rfl⟩
/-- A call upon arguments without memory. -/
theorem summ_ret {P : Program} {F : Nat} {S : Summ} (hS : SummOk P F S) (hl : S.l = []) (w : World) {xs : List Value} (hx : VRs ⟨fun _ => none, numB (fun _ => 0)⟩ S.args xs) :
    Calls P F ⟨xs⟩ w (fun en w' => ∃ x e', en = .returned x ∧ VR e' S.res x ∧ Sim e' S.hq w' ∧ Below w.heap.size w w') := by
  have hlive : ∀ b, ¬ live S.hp b := fun b hb => by
    rcases fold_live S.l E0 b hb with h | ⟨p, h, _⟩
    · exact E0_gone b h
    · rw [hl] at h; cases h
  refine (hS.2 ⟨fun _ => none, numB (fun _ => 0)⟩ w xs hx ⟨fun b hb => (hlive b hb).elim, fun b b' x x' hb => (hlive b hb).elim, fun n hn => hn.elim, fun n hn => hn.elim, fun b x hb => (hlive b hb).elim⟩ (fun b _ => rfl)).mono ?_
  rintro en w' ⟨x, rfl, e', hv, hp⟩
  exact ⟨x, e', rfl, hv, hp.sim, ⟨hp.os, hp.tape, hp.output, hp.size, fun k hk => hp.keep k hk (fun b x hb => (hlive b hb).elim)⟩⟩
/-- The cells that a slice spans. -/
theorem sim_cells {e : Env} {h : H} {w : World} (hs : Sim e h w) {b o l c : Nat} {x : Value} (hx : VR e (.sl b o l c) x) (hl : 0 < l) {t : T V} {m : Nat} (hb : h.get .gone b = .cells t m) (hm : o + l ≤ m) :
    ∃ n off, x = .slice (some ⟨n, off, none⟩) l c ∧ n < w.heap.size ∧ ∀ i, i < l → ∃ y, w.cell? ⟨n, off + i, none⟩ = some y ∧ VR e (t.get un (o + i)) y := by
  cases hx with
  | @sl _ _ _ _ n sh sz hf hlc =>
    have hlive : live h b := by unfold live; rw [hb]; intro hh; cases hh
    obtain ⟨x', ob, g1, g2, g3⟩ := hs.blk b hlive
    have : x' = ⟨n, sh, sz⟩ := by
      have g1' : e.f b = some x' := g1
      have hf' : e.f b = some ⟨n, sh, sz⟩ := hf
      rw [hf'] at g1'; injection g1' with g1'; exact g1'.symm
    subst this
    rw [hb] at g3
    cases g3 with
    | @cells _ _ _ _ _ cs el fr hsz hm' hc hh hfr =>
      refine ⟨n, sh + o, rfl, lt_of_heap g2, fun i hi => ?_⟩
      obtain ⟨y, q1, q2⟩ := hc (o + i) (by omega)
      refine ⟨y, ?_, q2⟩
      have g2' : w.heap[n]? = some (Obj.cells cs el fr) := g2
      simp only [World.cell?, g2']
      rw [Nat.add_assoc]
      simpa using q1
  | sl0 hf => omega
end Go.Ev
namespace Cmd
def svA : List Nat := [0, 1, 2, 2, 1, 2, 2, 2, 1, 1, 2, 2, 1, 2, 2, 2, 1, 1, 2, 2, 2, 1, 0, 1, 2, 3, 2, 0]
def svD : List Nat := [0, 0, 0, 1, 0, 0, 0, 0, 1, 0, 0, 1, 0, 0, 0, 1, 0, 0, 1, 0, 0, 1, 1, 0, 0, 0, 0, 0]
/-- Is there such a service; how many arguments it has, whether it has data. -/
def isS (s : Int) : Bool := decide (1 ≤ s) && decide (s ≤ 28)
def argN (s : Int) : Nat := if isS s = true then svA.getD (s - 1).toNat 0 else 0
def datN (s : Int) : Nat := if isS s = true then svD.getD (s - 1).toNat 0 else 0
theorem argN_le (s : Int) : argN s ≤ 3 := by
  unfold argN
  split
  · have : ∀ i, svA.getD i 0 ≤ 3 := by
      intro i
      by_cases h : i < 28
      · have : ∀ i, i < 28 → svA.getD i 0 ≤ 3 := by decide +kernel
        exact this i h
      · rw [List.getD_eq_getElem?_getD, List.getElem?_eq_none (by show 28 ≤ i; omega)]; simp
    exact this _
  · omega
theorem datN_le (s : Int) : datN s ≤ 1 := by
  unfold datN
  split
  · have : ∀ i, svD.getD i 0 ≤ 1 := by
      intro i
      by_cases h : i < 28
      · have : ∀ i, i < 28 → svD.getD i 0 ≤ 1 := by decide +kernel
        exact this i h
      · rw [List.getD_eq_getElem?_getD, List.getElem?_eq_none (by show 28 ≤ i; omega)]; simp
    exact this _
  · omega
end Cmd
namespace Go.Proofs.YtnklmadmenkdoaaGreat
open Go.RowKit Go.Proofs.Num
noncomputable def ihC : Go.Ev.Rn := Go.Ev.runF Tryz.prog Go.Ev.noPr 100000
noncomputable def fndS (i : Nat) : Go.Ev.Summ := ⟨[.int .i64 (.ofNat (i + 1))], [], 0, .tup [.agg [.opq, .int .i64 (.ofNat (Cmd.svA.getD i 0)), .bool (Nat.beq (Cmd.svD.getD i 0) 1), .opq, .opq], .bool true], [], 100⟩
noncomputable def fndC (i : Nat) : Bool := Go.Ev.goodB (Go.Ev.callV 113 (fndS i).args Tryz.prog Go.Ev.noPr ihC (fndS i).hp (fndS i).s (Go.Ev.sumK (fndS i)))
set_option maxRecDepth 1000000 in
theorem fnd_all : (List.range 28).all fndC = true := by kernel_rfl
noncomputable def rowS (i : Nat) : Go.Ev.Summ := ⟨[.int .i64 (.ofNat (i + 1))], [], 0, .sl i 0 4 4, [(i, .cells (Go.Ev.tree [.int .i64 (.ofNat (Cmd.svA.getD i 0)), .int .i64 (.ofNat (Cmd.svD.getD i 0)), .opq, .opq]) 4)], 100⟩
noncomputable def rowC (i : Nat) : Bool := Go.Ev.goodB (Go.Ev.callV 46 (rowS i).args Tryz.prog Go.Ev.noPr ihC (rowS i).hp (rowS i).s (Go.Ev.sumK (rowS i)))
set_option maxRecDepth 1000000 in
theorem row_all : (List.range 28).all rowC = true := by kernel_rfl
noncomputable def fndN (lo hi : Int) : Go.Ev.Summ := ⟨[.iv .i64 lo hi], [], 0, .tup [.agg [.opq, .int .i64 (.ofNat 0), .bool false, .opq, .opq], .bool false], [], 100⟩
noncomputable def fndNC (lo hi : Int) : Bool := Go.Ev.goodB (Go.Ev.callV 113 (fndN lo hi).args Tryz.prog Go.Ev.noPr ihC (fndN lo hi).hp (fndN lo hi).s (Go.Ev.sumK (fndN lo hi)))
noncomputable def rowN (lo hi : Int) : Go.Ev.Summ := ⟨[.iv .i64 lo hi], [], 0, .nils, [], 100⟩
noncomputable def rowNC (lo hi : Int) : Bool := Go.Ev.goodB (Go.Ev.callV 46 (rowN lo hi).args Tryz.prog Go.Ev.noPr ihC (rowN lo hi).hp (rowN lo hi).s (Go.Ev.sumK (rowN lo hi)))
set_option maxRecDepth 1000000 in
theorem fndN_lo : fndNC (.negSucc 9223372036854775807) (.ofNat 0) = true := by kernel_rfl
set_option maxRecDepth 1000000 in
theorem fndN_hi : fndNC (.ofNat 29) (.ofNat 9223372036854775807) = true := by kernel_rfl
set_option maxRecDepth 1000000 in
theorem rowN_lo : rowNC (.negSucc 9223372036854775807) (.ofNat 0) = true := by kernel_rfl
set_option maxRecDepth 1000000 in
theorem rowN_hi : rowNC (.ofNat 29) (.ofNat 9223372036854775807) = true := by kernel_rfl
theorem ihC_sound : Go.Ev.SoundRn Tryz.prog ihC := Go.Ev.runF_sound (by kernel_rfl) Go.Ev.noPr_ok _
theorem opq_of {e : Go.Ev.Env} {x : Value} (h : Go.Ev.VR e .opq x) : x.oneCell' = true ∧ ∀ b, x ≠ .bool b := by
  cases h with
  | opq h hb => exact ⟨h, hb⟩
/-- What find hands back. -/
theorem cFind (w : World) (s : Int) (h1 : -9223372036854775808 ≤ s) (h2 : s < 9223372036854775808) :
    Calls Tryz.prog 113 #[.int .i64 s] w fun e w' => ∃ nm lo hi : Value, e = .returned (.tuple #[.agg #[nm, .int .i64 ((Cmd.argN s : Nat) : Int), .bool (Nat.beq (Cmd.datN s) 1), lo, hi], .bool (Cmd.isS s)]) ∧ (nm.oneCell' = true ∧ lo.oneCell' = true ∧ hi.oneCell' = true) ∧ Below w.heap.size w w' := by
  have key : ∀ (S : Go.Ev.Summ) (a : Nat) (d is : Bool), S.l = [] → S.s = 0 → S.s' = 100 → S.res = .tup [.agg [.opq, .int .i64 (.ofNat a), .bool d, .opq, .opq], .bool is] → Go.Ev.VRs ⟨fun _ => none, Go.Ev.numB (fun _ => 0)⟩ S.args [.int .i64 s] →
      Go.Ev.goodB (Go.Ev.callV 113 S.args Tryz.prog Go.Ev.noPr ihC S.hp S.s (Go.Ev.sumK S)) = true → a = Cmd.argN s → d = Nat.beq (Cmd.datN s) 1 → is = Cmd.isS s →
      Calls Tryz.prog 113 #[.int .i64 s] w fun e w' => ∃ nm lo hi : Value, e = .returned (.tuple #[.agg #[nm, .int .i64 ((Cmd.argN s : Nat) : Int), .bool (Nat.beq (Cmd.datN s) 1), lo, hi], .bool (Cmd.isS s)]) ∧ (nm.oneCell' = true ∧ lo.oneCell' = true ∧ hi.oneCell' = true) ∧ Below w.heap.size w w' := by
    intro S a d is hl hs hs' hres hx hk ha hd his
    refine (Go.Ev.summ_ret (Go.Ev.summ_ok ihC_sound Go.Ev.noPr_ok (by rw [hs, hs']; rfl) hk) hl w hx).mono ?_
    rintro en w' ⟨x, e', rfl, hv, _, hb⟩
    rw [hres] at hv
    cases hv with
    | tup hv =>
      cases hv with
      | cons v1 t1 =>
        cases t1 with
        | cons v2 t2 =>
          cases t2
          cases v1 with
          | agg v1 =>
            cases v1 with
            | cons a0 r0 =>
              cases r0 with
              | cons a1 r1 =>
                cases r1 with
                | cons a2 r2 =>
                  cases r2 with
                  | cons a3 r3 =>
                    cases r3 with
                    | cons a4 r4 =>
                      cases r4
                      cases a1
                      cases a2
                      cases v2
                      exact ⟨_, _, _, by rw [← ha, ← hd, ← his]; rfl, ⟨(opq_of a0).1, (opq_of a3).1, (opq_of a4).1⟩, hb⟩
  by_cases g1 : s < 1
  · have e1 : Cmd.isS s = false := by unfold Cmd.isS; rw [decide_eq_false (by omega)]; rfl
    exact key (fndN (.negSucc 9223372036854775807) (.ofNat 0)) 0 false false rfl rfl rfl rfl (.cons (.iv (show (Int.negSucc 9223372036854775807) ≤ s by omega) (show s ≤ Int.ofNat 0 by simp; omega)) .nil) fndN_lo (by unfold Cmd.argN; rw [e1]; rfl) (by unfold Cmd.datN; rw [e1]; rfl) e1.symm
  · by_cases g2 : 28 < s
    · have e1 : Cmd.isS s = false := by unfold Cmd.isS; rw [decide_eq_false (show ¬ s ≤ 28 by omega)]; simp
      exact key (fndN (.ofNat 29) (.ofNat 9223372036854775807)) 0 false false rfl rfl rfl rfl (.cons (.iv (show Int.ofNat 29 ≤ s by simp; omega) (show s ≤ Int.ofNat 9223372036854775807 by simp; omega)) .nil) fndN_hi (by unfold Cmd.argN; rw [e1]; rfl) (by unfold Cmd.datN; rw [e1]; rfl) e1.symm
    · obtain ⟨i, rfl⟩ : ∃ i : Nat, s = Int.ofNat (i + 1) := ⟨(s - 1).toNat, by simp; omega⟩
      have hi : i < 28 := by simp at g2; omega
      have e1 : Cmd.isS (Int.ofNat (i + 1)) = true := by unfold Cmd.isS; rw [decide_eq_true (by simp; omega), decide_eq_true (by simp; omega)]; rfl
      have e2 : (Int.ofNat (i + 1) - 1).toNat = i := by simp
      exact key (fndS i) (Cmd.svA.getD i 0) (Nat.beq (Cmd.svD.getD i 0) 1) true rfl rfl rfl rfl (.cons (.int _ _) .nil) (List.all_eq_true.1 fnd_all i (List.mem_range.2 hi)) (by unfold Cmd.argN; rw [if_pos e1, e2]) (by unfold Cmd.datN; rw [if_pos e1, e2]) e1.symm
set_option maxRecDepth 1000000 in
theorem E0_has (i : Nat) (hi : i < 28) : Go.Ev.T.has Go.Ev.E0 i = true := by
  have h : (List.range 28).all (fun i => Go.Ev.T.has Go.Ev.E0 i) = true := by kernel_rfl
  exact List.all_eq_true.1 h i (List.mem_range.2 hi)
/-- What the reference's row holds. -/
theorem cRow (w : World) (s : Int) (h1 : -9223372036854775808 ≤ s) (h2 : s < 9223372036854775808) :
    Calls Tryz.prog 46 #[.int .i64 s] w fun e w' => Below w.heap.size w w' ∧ ((Cmd.isS s = false ∧ e = .returned (.slice none 0 0)) ∨
      (Cmd.isS s = true ∧ ∃ g o lo hi, e = .returned (.slice (some ⟨g, o, none⟩) 4 4) ∧ g < w'.heap.size ∧ w'.cell? ⟨g, o, none⟩ = some (.int .i64 ((Cmd.argN s : Nat) : Int)) ∧ w'.cell? ⟨g, o + 1, none⟩ = some (.int .i64 ((Cmd.datN s : Nat) : Int)) ∧ w'.cell? ⟨g, o + 2, none⟩ = some lo ∧ w'.cell? ⟨g, o + 3, none⟩ = some hi)) := by
  have no : ∀ (lo hi : Int), rowNC lo hi = true → lo ≤ s → s ≤ hi → Cmd.isS s = false → Calls Tryz.prog 46 #[.int .i64 s] w fun e w' => Below w.heap.size w w' ∧ ((Cmd.isS s = false ∧ e = .returned (.slice none 0 0)) ∨
      (Cmd.isS s = true ∧ ∃ g o lo hi, e = .returned (.slice (some ⟨g, o, none⟩) 4 4) ∧ g < w'.heap.size ∧ w'.cell? ⟨g, o, none⟩ = some (.int .i64 ((Cmd.argN s : Nat) : Int)) ∧ w'.cell? ⟨g, o + 1, none⟩ = some (.int .i64 ((Cmd.datN s : Nat) : Int)) ∧ w'.cell? ⟨g, o + 2, none⟩ = some lo ∧ w'.cell? ⟨g, o + 3, none⟩ = some hi)) := by
    intro lo hi hk k1 k2 he
    refine (Go.Ev.summ_ret (S := rowN lo hi) (Go.Ev.summ_ok ihC_sound Go.Ev.noPr_ok rfl hk) rfl w (.cons (.iv k1 k2) .nil)).mono ?_
    rintro en w' ⟨x, e', rfl, hv, _, hb⟩
    have hv' : Go.Ev.VR e' .nils x := hv
    cases hv'
    exact ⟨hb, Or.inl ⟨he, rfl⟩⟩
  by_cases g1 : s < 1
  · exact no _ _ rowN_lo (show (Int.negSucc 9223372036854775807) ≤ s by omega) (show s ≤ Int.ofNat 0 by simp; omega) (by unfold Cmd.isS; rw [decide_eq_false (by omega)]; rfl)
  · by_cases g2 : 28 < s
    · exact no _ _ rowN_hi (show Int.ofNat 29 ≤ s by simp; omega) (show s ≤ Int.ofNat 9223372036854775807 by simp; omega) (by unfold Cmd.isS; rw [decide_eq_false (show ¬ s ≤ 28 by omega)]; simp)
    · obtain ⟨i, rfl⟩ : ∃ i : Nat, s = Int.ofNat (i + 1) := ⟨(s - 1).toNat, by simp; omega⟩
      have hi : i < 28 := by simp at g2; omega
      have e1 : Cmd.isS (Int.ofNat (i + 1)) = true := by unfold Cmd.isS; rw [decide_eq_true (by simp; omega), decide_eq_true (by simp; omega)]; rfl
      have e2 : (Int.ofNat (i + 1) - 1).toNat = i := by simp
      have e3 : Cmd.argN (Int.ofNat (i + 1)) = Cmd.svA.getD i 0 := by unfold Cmd.argN; rw [if_pos e1, e2]
      have e4 : Cmd.datN (Int.ofNat (i + 1)) = Cmd.svD.getD i 0 := by unfold Cmd.datN; rw [if_pos e1, e2]
      refine (Go.Ev.summ_ret (S := rowS i) (Go.Ev.summ_ok ihC_sound Go.Ev.noPr_ok rfl (List.all_eq_true.1 row_all i (List.mem_range.2 hi))) rfl w (.cons (.int _ _) .nil)).mono ?_
      rintro en w' ⟨x, e', rfl, hv, hsim, hb⟩
      have hg : (rowS i).hq.get .gone i = .cells (Go.Ev.tree [.int .i64 (.ofNat (Cmd.svA.getD i 0)), .int .i64 (.ofNat (Cmd.svD.getD i 0)), .opq, .opq]) 4 := by
        show ((Go.Ev.E0.set i _).get .gone i) = _
        rw [Go.Ev.T.get_set _ _ _ _ _ (E0_has i hi), if_pos rfl]
      obtain ⟨n, off, hx, hn, hc⟩ := Go.Ev.sim_cells hsim hv (by decide) hg (by decide)
      obtain ⟨y0, q0, r0⟩ := hc 0 (by decide)
      obtain ⟨y1, q1, r1⟩ := hc 1 (by decide)
      obtain ⟨y2, q2, _⟩ := hc 2 (by decide)
      obtain ⟨y3, q3, _⟩ := hc 3 (by decide)
      have r0' : Go.Ev.VR e' (.int .i64 (.ofNat (Cmd.svA.getD i 0))) y0 := r0
      have r1' : Go.Ev.VR e' (.int .i64 (.ofNat (Cmd.svD.getD i 0))) y1 := by
        have h := r1
        rw [Go.Ev.tree_get _ _ (by simp)] at h
        exact h
      cases r0'
      cases r1'
      exact ⟨hb, Or.inr ⟨e1, n, off, y2, y3, by rw [hx], hn, by rw [e3]; exact q0, by rw [e4]; exact q1, q2, q3⟩⟩
end Go.Proofs.YtnklmadmenkdoaaGreat
