/- An evaluator of the model's code: a state that is below a general one may be taken for it. An evaluator of the model's code: calls that are answered by a summary: what is known of a call from one general state. -/
import Derived.Test.YtnklmadmenkdoaaGreatQEvGo
set_option linter.unusedVariables false
set_option linter.unusedSimpArgs false
namespace Go.Ev
open Go.RowKit
variable {D : List Deferred}
variable {P : Program} {pr : Prims} {ih : Rn} {e e' : Env} {t : T V} {h : H} {s : Nat} {w : World} {a : Act} {r : RO} {k : K} {o : Oper}
theorem u8s_ok : ∀ {l : List V} {xs : List Value}, VRs e l xs → u8s l = true → ∀ (i : Nat) (y : Value), xs[i]? = some y → ∃ n, y = .int .u8 n ∧ IntKind.wrap .u8 n = n
  | [], _, .nil, _, i, y, hy => by simp at hy
  | v :: l, x :: xs, .cons hv ht, hk, i, y, hy => by
    have hh : u8s l = true ∧ ∃ n, x = .int .u8 n ∧ IntKind.wrap .u8 n = n := by
      unfold u8s at hk
      split at hk
      · rename_i heq; cases heq
      · rename_i n l' heq
        injection heq with h1 h2; subst h1 h2
        simp at hk
        cases hv
        refine ⟨hk.2, _, rfl, ?_⟩
        have := hk.1
        show IntKind.wrap .u8 (n : Int) = (n : Int)
        rw [IntKind.wrap_u8]; omega
      · rename_i y' l' heq
        injection heq with h1 h2; subst h1 h2
        cases hv with
        | sx h1 hw => exact ⟨hk, _, rfl, hw⟩
      · cases hk
    cases i with
    | zero => simp at hy; subst hy; exact hh.2
    | succ i => exact u8s_ok ht hh.1 i y (by simpa using hy)
/-- What the small numbers are, called anew. -/
def SigAt (B : Base) (σ : Sig) : Prop := ∀ j, 1000000 ≤ j → 0 ≤ (subJ σ j).1 + linD B.ρ (subJ σ j).2 ∧ (subJ σ j).1 + linD B.ρ (subJ σ j).2 ≤ ((j % 1000 : Nat) : Int)
open Classical in
/-- What was there, one slice of bytes more, the small numbers called anew. -/
noncomputable def Base.plus (B : Base) (w : World) (σ : Sig) (hσ : SigAt B σ) (pn : Nat → Prop) (a : Option Addr) (l c : Nat) (g : Nat → Int)
    (hx : ∀ i, i < l → ∃ n o cs el fr, a = some ⟨n, o, none⟩ ∧ pn n ∧ ¬ B.prot n ∧ w.heap[n]? = some (.cells cs el fr) ∧ cs[o + i]? = some (.int .u8 (g i)) ∧ IntKind.wrap .u8 (g i) = g i) (hl : l ≤ 1000) : Base where
  ρ i := if 1000000 ≤ i then (subJ σ i).1 + linD B.ρ (subJ σ i).2 else if 3000 ≤ i ∧ i < 4000 then g (i - 3000) else B.ρ i
  prot k := B.prot k ∨ pn k
  w0 k := if B.prot k then B.w0 k else w.heap[k]?
  x j := if j = 3 then some (a, l, c) else B.x j
  hx := fun j ad m cc h i hi => by
    by_cases hj : j = 3
    · subst hj
      rw [if_pos rfl] at h
      injection h with h; injection h with h1 h2; injection h2 with h2 h3
      subst h1 h2 h3
      obtain ⟨n, o, cs, el, fr, g1, g2, g3, g4, g5, g6⟩ := hx i hi
      have hbig : ¬ 1000000 ≤ 1000 * 3 + i := by omega
      have hin : 3000 ≤ 1000 * 3 + i ∧ 1000 * 3 + i < 4000 := by omega
      have hsub : 1000 * 3 + i - 3000 = i := by omega
      refine ⟨n, o, cs, el, fr, g1, .inr g2, ?_, ?_, ?_⟩
      · rw [if_neg g3]; exact g4
      · rw [if_neg hbig, if_pos hin, hsub]; exact g5
      · rw [if_neg hbig, if_pos hin, hsub]; exact g6
    · rw [if_neg hj] at h
      obtain ⟨hm1, hm2⟩ := B.xm j _ _ _ h
      obtain ⟨n, o, cs, el, fr, g1, g2, g3, g4, g5⟩ := B.hx j _ _ _ h i hi
      have hbig : ¬ 1000000 ≤ 1000 * j + i := by omega
      have hne : ¬ (3000 ≤ 1000 * j + i ∧ 1000 * j + i < 4000) := by omega
      exact ⟨n, o, cs, el, fr, g1, .inl g2, by rw [if_pos g2]; exact g3, by rw [if_neg hbig, if_neg hne]; exact g4, by rw [if_neg hbig, if_neg hne]; exact g5⟩
  xm := fun j ad m cc h => by
    by_cases hj : j = 3
    · subst hj
      rw [if_pos rfl] at h
      injection h with h; injection h with h1 h2; injection h2 with h2 h3
      exact ⟨by omega, by omega⟩
    · rw [if_neg hj] at h
      exact B.xm j _ _ _ h
  sm := fun j hj => by rw [if_pos hj]; exact hσ j hj
section
variable {B : Base} {σ : Sig} {hσ : SigAt B σ} {pn : Nat → Prop} {ad : Option Addr} {l c : Nat} {g : Nat → Int} {hx : ∀ i, i < l → ∃ n o cs el fr, ad = some ⟨n, o, none⟩ ∧ pn n ∧ ¬ B.prot n ∧ w.heap[n]? = some (.cells cs el fr) ∧ cs[o + i]? = some (.int .u8 (g i)) ∧ IntKind.wrap .u8 (g i) = g i} {hl : l ≤ 1000}
theorem plus_x (j : Nat) : (B.plus w σ hσ pn ad l c g hx hl).x j = if j = 3 then some (ad, l, c) else B.x j := rfl
theorem plus_x3 : (B.plus w σ hσ pn ad l c g hx hl).x 3 = some (ad, l, c) := by rw [plus_x, if_pos rfl]
theorem plus_xo (j : Nat) (hj : j ≠ 3) : (B.plus w σ hσ pn ad l c g hx hl).x j = B.x j := by rw [plus_x, if_neg hj]
theorem plus_prot (n : Nat) : (B.plus w σ hσ pn ad l c g hx hl).prot n ↔ B.prot n ∨ pn n := Iff.rfl
theorem plus_in {n : Nat} (hp : B.prot n) : (B.plus w σ hσ pn ad l c g hx hl).w0 n = B.w0 n := by
  unfold Base.plus; dsimp only; rw [if_pos hp]
theorem plus_out {n : Nat} (hp : ¬ B.prot n) : (B.plus w σ hσ pn ad l c g hx hl).w0 n = w.heap[n]? := by
  unfold Base.plus; dsimp only; rw [if_neg hp]
theorem plus_low (i : Nat) (hi : i < 3000) : (B.plus w σ hσ pn ad l c g hx hl).ρ i = B.ρ i := by
  have h1 : ¬ 1000000 ≤ i := by omega
  have h2 : ¬ (3000 ≤ i ∧ i < 4000) := by omega
  unfold Base.plus; dsimp only; rw [if_neg h1, if_neg h2]
theorem plus_sm (j : Nat) (hj : 1000000 ≤ j) : (B.plus w σ hσ pn ad l c g hx hl).ρ j = (subJ σ j).1 + linD B.ρ (subJ σ j).2 := by
  unfold Base.plus; dsimp only; rw [if_pos hj]
end
theorem subJ_cons (p : Nat × Int × List Nat) (σ : Sig) (j : Nat) : subJ (p :: σ) j = bif Nat.beq p.1 j then p.2 else subJ σ j := rfl
theorem sigOk_at {B : Base} : ∀ {σ : Sig}, sigOk σ = true → SigAt B σ
  | [], _ => fun j hj => by
    show 0 ≤ (0 : Int) + (B.ρ j + 0) ∧ (0 : Int) + (B.ρ j + 0) ≤ _
    have := B.sm j hj; omega
  | p :: σ, h => fun j hj => by
    have h' : (bif Nat.ble 1000000 p.1 && (smallL p.2.2 && (ile 0 p.2.1 && ile (Int.add p.2.1 (.ofNat (bndL p.2.2))) (.ofNat (Nat.mod p.1 1000)))) then sigOk σ else false) = true := h
    cases hc : (Nat.ble 1000000 p.1 && (smallL p.2.2 && (ile 0 p.2.1 && ile (Int.add p.2.1 (.ofNat (bndL p.2.2))) (.ofNat (Nat.mod p.1 1000))))) with
    | false => rw [hc] at h'; cases h'
    | true =>
      rw [hc] at h'
      rw [subJ_cons]
      cases hq : Nat.beq p.1 j with
      | false => exact sigOk_at (σ := σ) h' j hj
      | true =>
        have := Nat.eq_of_beq_eq_true hq
        subst this
        simp only [Bool.and_eq_true, ile_eq, decide_eq_true_eq] at hc
        obtain ⟨_, h2, h3, h4⟩ := hc
        obtain ⟨q1, q2⟩ := lin_rng (show Smalls B.ρ from B.sm) h2
        have h4 : p.2.1 + ((bndL p.2.2 : Nat) : Int) ≤ ((p.1 % 1000 : Nat) : Int) := h4
        simp only [cond_true]
        omega
attribute [local irreducible] Base.plus
theorem fold_live : ∀ (l : List (Nat × B)) (h : H) (b : Nat), live (l.foldl (fun h p => h.set p.1 p.2) h) b → live h b ∨ ∃ p, p ∈ l ∧ p.1 = b
  | [], h, b, hl => .inl hl
  | p :: l, h, b, hl => by
    rcases fold_live l (h.set p.1 p.2) b hl with h1 | ⟨q, h1, h2⟩
    · by_cases hb : b = p.1
      · exact .inr ⟨p, by simp, hb.symm⟩
      · refine .inl ?_
        unfold live at h1 ⊢
        cases hh : h.has p.1 with
        | true => rwa [T.get_set .gone h p.1 b p.2 hh, if_neg hb] at h1
        | false => rwa [T.set_off h p.1 p.2 hh] at h1
    · exact .inr ⟨q, by simp [h1], h2⟩
theorem E0_gone (b : Nat) : ¬ live E0 b := fun h => h (by unfold E0; exact T.get_mk _ _ _ _)
theorem hasAll_ok {t : T V} : ∀ {n : Nat}, hasAll t n = true → ∀ i, i < n → t.has i = true
  | 0, _, i, hi => by omega
  | n + 1, hk, i, hi => by
    simp only [hasAll, Bool.and_eq_true] at hk
    by_cases h0 : i = n
    · subst h0; exact hk.1
    · exact hasAll_ok hk.2 i (by omega)
theorem leEs_ok {m : Rm} (hE : ∀ b' b, rn m b' b = true → e'.f b' = e.f b) (hX : XLe m e e') : ∀ {l : List (V × V × Nat)} {es : List MapEntry}, ER e l es → ∀ l', leEs m l' l = true → ER e' l' es
  | _, _, .nil, l', hk => by cases l' <;> simp [leEs] at hk; exact .nil
  | _, _, .cons hk1 hv1 ht, l', hk => by
    cases l' with
    | nil => simp [leEs] at hk
    | cons p l' =>
      obtain ⟨k', v', n'⟩ := p
      simp [leEs] at hk
      obtain ⟨h1, h2, h3, h4⟩ := hk
      subst h3
      exact .cons (leV_ok hE hX hk1 _ h1) (leV_ok hE hX hv1 _ h2) (leEs_ok hE hX ht _ h4)
theorem leB_ok {m : Rm} (hE : ∀ b' b, rn m b' b = true → e'.f b' = e.f b) (hX : XLe m e e') {x : Loc} {b b' : B} {ob : Obj} (h : BR e x b ob) (hk : leB m b' b = true) : BR e' x b' ob := by
  cases h with
  | @cells n sh sz t m' c el fr hs hm hc hh hf =>
    cases b' <;> simp [leB] at hk
    rename_i t' n'
    obtain ⟨h1, h2, h3⟩ := hk
    subst h1
    obtain ⟨xs, g1, g2, g3⟩ := rd_ok (x := ⟨n, sh, sz⟩) (o := 0) (z := n') hc (by omega)
    have hv := leVs_ok hE hX g2 _ h3
    refine .cells hs hm (fun i hi => ?_) (hasAll_ok h2) hf
    have hlen : i < xs.length := by omega
    refine ⟨xs[i], ?_, ?_⟩
    · have := g3 i xs[i] (by simp [hlen])
      simpa using this
    · obtain ⟨y, q1, q2⟩ := hv.get un i (by rw [rdCells_len]; exact hi)
      have q3 := rdCells_get t' n' 0 i hi
      have : xs[i] = y := by
        have : xs[i]? = some xs[i] := by simp [hlen]
        rw [this] at q1; injection q1
      rw [this]
      rw [List.getD_eq_getElem?_getD, q3] at q2
      simpa using q2
  | map h =>
    cases b' <;> simp [leB] at hk
    obtain ⟨h1, h2⟩ := hk
    subst h1
    exact .map (leEs_ok hE hX h _ h2)
  | iter0 => cases b' <;> simp [leB] at hk
  | iter h => cases b' <;> simp [leB] at hk
  | loop h1 h2 h3 h4 h5 h6 h7 => cases b' <;> simp [leB] at hk
theorem leB_live {m : Rm} {b b' : B} (hk : leB m b' b = true) : b ≠ .gone := by
  intro hb; subst hb; cases b' <;> simp [leB] at hk
/-- The state below a general one, where the outside slices are known. -/
theorem gen_sim {q : Rm} {i : T Nat} {G : Gst} {S : Sta} (hk : chkP q i G S = true) (ha : AR D e S.t a) (hs : Sim e S.h w) (hX : XLe q e e') (hf' : ∀ b, e'.f b = if b < q.s then e.f (Nat.pred (q.m.get 0 b)) else none)
    (hP : ∀ n, e'.base.prot n → e.base.prot n ∨ ∃ d x, e.f d = some x ∧ x.n = n ∧ live S.h d ∧ i.get 0 d = 0) (hbig : ∀ n, e'.base.prot n → n < w.heap.size) (hold : ∀ n, e'.base.prot n → w.heap[n]? = e'.base.w0 n) :
    Sim e' G.h w ∧ AR D e' G.t a ∧ Free e' G.s := by
  unfold chkP at hk
  simp only [Bool.and_eq_true] at hk
  obtain ⟨k1, k2, k3, k4, k5, k6, k7, k8⟩ := hk
  have k1 := Nat.eq_of_beq_eq_true k1
  have k2 := Nat.le_of_ble_eq_true k2
  have k7 := Nat.eq_of_beq_eq_true k7
  have k4 : S.t.has S.n = false := by cases hh : S.t.has S.n <;> simp_all
  rw [len_eq] at k1
  have hE : ∀ b' b, rn q b' b = true → e'.f b' = e.f b := fun b' b hr => by
    unfold rn at hr
    simp only [Bool.and_eq_true] at hr
    have h1 := Nat.le_of_ble_eq_true hr.1
    have h2 := Nat.eq_of_beq_eq_true hr.2
    rw [hf', if_pos (show b' < q.s from h1), h2]; rfl
  have hsz : a.tmps.size = S.n := by
    have h1 := (ha.tr.has (Nat.pred S.n)).1 k3
    have h2 : ¬ S.n < a.tmps.size := fun hlt => by
      have := (ha.tr.has S.n).2 hlt
      rw [k4] at this; cases this
    have h3 : Nat.pred S.n = S.n - 1 := rfl
    omega
  have hB : ∀ b', live G.h b' → ∃ b, b' < q.s ∧ e'.f b' = e.f b ∧ i.get 0 b = Nat.succ b' ∧ leB q (G.h.get .gone b') (S.h.get .gone b) = true := fun b' hl => by
    rcases fold_live G.l E0 b' hl with h1 | ⟨p, h1, h2⟩
    · exact (E0_gone b' h1).elim
    · have h3 := List.all_eq_true.1 k8 p h1
      rw [h2] at h3
      unfold chkB at h3
      simp only [Bool.and_eq_true] at h3
      have h5 := h3.1
      unfold rn at h5
      simp only [Bool.and_eq_true] at h5
      exact ⟨_, Nat.le_of_ble_eq_true h5.1, hE _ _ h3.1, Nat.eq_of_beq_eq_true h3.2.1, h3.2.2⟩
  refine ⟨⟨fun b' hl => ?_, fun b1 b2 x1 x2 hl1 hl2 he1 he2 hn => ?_, hbig, hold, fun b' x hl hx hp => ?_⟩, ⟨⟨fun j => ?_, fun j => ?_⟩, ha.nodef⟩, fun b hb => ?_⟩
  · obtain ⟨b, h1, h2, h3, h4⟩ := hB b' hl
    obtain ⟨x, o', g1, g2, g3⟩ := hs.blk b (leB_live h4)
    exact ⟨x, o', by rw [h2]; exact g1, g2, leB_ok hE hX g3 h4⟩
  · obtain ⟨c1, h1, h2, h3, h4⟩ := hB b1 hl1
    obtain ⟨c2, g1, g2, g3, g4⟩ := hB b2 hl2
    rw [h2] at he1
    rw [g2] at he2
    have := hs.inj c1 c2 x1 x2 (leB_live h4) (leB_live g4) he1 he2 hn
    subst this
    rw [h3] at g3; injection g3
  · obtain ⟨b, h1, h2, h3, h4⟩ := hB b' hl
    rw [h2] at hx
    rcases hP _ hp with hq | ⟨d, x', q1, q2, q3, q4⟩
    · exact hs.above b x (leB_live h4) hx hq
    · have := hs.inj b d x x' (leB_live h4) q3 hx q1 q2.symm
      subst this
      rw [q4] at h3; cases h3
  · show (tree G.tl).has j = true ↔ _
    rw [tree_has, k1, hsz]
  · show VR e' ((tree G.tl).get un j) (a.tmps.getD j undef)
    have hvs : VRs e (rdCells S.t S.n 0) a.tmps.toList := VRs.ofFn (by rw [rdCells_len]; simp [hsz]) (fun j hj => by
      rw [rdCells_len] at hj
      have hj' : j < a.tmps.size := by omega
      refine ⟨S.t.get un j, a.tmps[j], by rw [rdCells_get S.t S.n 0 j hj]; simp, by simp [hj'], ?_⟩
      have := ha.tr.val j
      simpa [Array.getD, hj'] using this)
    have hvs' := leVs_ok hE hX hvs _ k5
    by_cases hj : j < S.n
    · obtain ⟨y, g1, g2⟩ := hvs'.get un j (by omega)
      rw [tree_get G.tl j (by omega)]
      have hj' : j < a.tmps.size := by omega
      have : a.tmps.getD j undef = y := by
        simp [hj'] at g1
        simpa [Array.getD, hj'] using g1
      rw [this]; exact g2
    · have h1 : (tree G.tl).has j = false := by
        cases hh : (tree G.tl).has j with
        | false => rfl
        | true => exact absurd ((tree_has G.tl j).1 hh) (by omega)
      rw [T.get_off un _ j h1]
      have : a.tmps.getD j undef = undef := by simp [Array.getD, show ¬ j < a.tmps.size by omega]
      rw [this]; exact undef_VR
  · rw [hf', if_neg (by omega)]
/-- A state that is below a general one may be taken for it. -/
theorem gen_okG {σ : Sig} {G : Gst} {S : Sta} (hk : chkG σ G S = true) (hσ : SigAt e.base σ) (ha : AR D e S.t a) (hs : Sim e S.h w) : ∃ e', Sim e' G.h w ∧ AR D e' G.t a ∧ Free e' G.s ∧ (∀ n, e.base.prot n → e'.base.prot n) ∧ ∀ j, 1000000 ≤ j → e'.base.ρ j = (subJ σ j).1 + linD e.base.ρ (subJ σ j).2 := by
  unfold chkG chkV at hk
  generalize reach G.h S.h 100000 (prs G.tl S.tm) N0 [] = vis at hk
  generalize hm : renOf vis = m at hk
  generalize hi : invOf vis = i at hk
  generalize hd : dtOf G.h S.h vis = dt at hk
  have hkk := hk
  unfold chkP at hk
  simp only [Bool.and_eq_true] at hk
  have k6 := hk.2.2.2.2.2.1
  clear hk
  cases dt with
  | none =>
    refine ⟨⟨fun b => if b < G.s then e.f (Nat.pred (m.get 0 b)) else none, e.base.plus w σ hσ (fun _ => False) none 0 0 (fun _ => 0) (fun i hi => by omega) (by omega)⟩, ?_⟩
    have hX : XLe ⟨m, G.s, none, σ⟩ e ⟨fun b => if b < G.s then e.f (Nat.pred (m.get 0 b)) else none, e.base.plus w σ hσ (fun _ => False) none 0 0 (fun _ => 0) (fun i hi => by omega) (by omega)⟩ := by
      refine ⟨fun hi v x hv hx => ?_, plus_xo, plus_low, plus_sm⟩
      have key : ∀ a' c', VR (⟨fun b => if b < G.s then e.f (Nat.pred (m.get 0 b)) else none, e.base.plus w σ hσ (fun _ => False) none 0 0 (fun _ => 0) (fun i hi => by omega) (by omega)⟩ : Env) (.xsu 3 hi) (.slice a' 0 c') := fun a' c' => .xsu (a := none) (c := 0) plus_x3 (Nat.zero_le _) (fun h => absurd h (by omega))
      dsimp only at hx
      unfold xOk at hx
      dsimp only at hx
      split at hx
      · have := Nat.eq_of_beq_eq_true hx
        subst this
        cases hv <;> exact key _ _
      · have := Nat.eq_of_beq_eq_true hx
        subst this
        cases hv <;> exact key _ _
      · cases hv; exact key _ _
      · have := Nat.eq_of_beq_eq_true hx
        subst this
        cases hv; exact key _ _
      · cases hx
    obtain ⟨g1, g2, g3⟩ := gen_sim (e' := ⟨fun b => if b < G.s then e.f (Nat.pred (m.get 0 b)) else none, e.base.plus w σ hσ (fun _ => False) none 0 0 (fun _ => 0) (fun i hi => by omega) (by omega)⟩) hkk ha hs hX (fun b => rfl)
      (fun n hn => ((plus_prot n).1 hn).elim .inl False.elim) (fun n hn => ((plus_prot n).1 hn).elim (hs.big n) False.elim) (fun n hn => by
        have hp : e.base.prot n := ((plus_prot n).1 hn).elim id False.elim
        exact (hs.old n hp).trans (plus_in hp).symm)
    exact ⟨g1, g2, g3, fun n hn => (plus_prot n).2 (.inl hn), plus_sm⟩
  | some d =>
    dsimp only [dtOk] at k6
    split at k6
    · rename_i t n hcells
      simp only [Bool.and_eq_true] at k6
      obtain ⟨q1, q2, q3, q4, q5⟩ := k6
      have q1 : d.o + d.l ≤ n := Nat.le_of_ble_eq_true q1
      have q3 := Nat.le_of_ble_eq_true q3
      have q4 := Nat.le_of_ble_eq_true q4
      have q5 := Nat.eq_of_beq_eq_true q5
      have hlive : live S.h d.b := live_of_cells hcells (by simp)
      obtain ⟨x, ob, g1, g2, g3⟩ := hs.blk d.b hlive
      obtain ⟨_, cs, el, fr, hw, p1, p2, p3, p4, p5⟩ := cells_at hs hcells g1
      obtain ⟨xs, r1, r2, r3⟩ := rd_ok p3 q1
      have hu := u8s_ok r2 q2
      have hx : ∀ i, i < d.l → ∃ n o cs el fr, (some ⟨x.n, x.sh + d.o, none⟩ : Option Addr) = some ⟨n, o, none⟩ ∧ x.n = n ∧ ¬ e.base.prot n ∧ w.heap[n]? = some (.cells cs el fr) ∧ cs[o + i]? = some (.int .u8 (intOf (xs.getD i undef))) ∧ IntKind.wrap .u8 (intOf (xs.getD i undef)) = intOf (xs.getD i undef) := fun i hi => by
        have hxi : xs[i]? = some xs[i] := by simp [r1, hi]
        obtain ⟨v, u1, u2⟩ := hu i _ hxi
        have hg : intOf (xs.getD i undef) = v := by
          rw [List.getD_eq_getElem?_getD, hxi]; simp [u1, intOf]
        refine ⟨x.n, x.sh + d.o, cs, el, fr, rfl, rfl, hs.above d.b x hlive g1, hw, ?_, ?_⟩
        · rw [r3 i _ hxi, u1, hg]
        · rw [hg]; exact u2
      refine ⟨⟨fun b => if b < G.s then e.f (Nat.pred (m.get 0 b)) else none, e.base.plus w σ hσ (fun n => x.n = n) (some ⟨x.n, x.sh + d.o, none⟩) d.l 0 (fun i => intOf (xs.getD i undef)) hx q4⟩, ?_⟩
      have hX : XLe ⟨m, G.s, some d, σ⟩ e ⟨fun b => if b < G.s then e.f (Nat.pred (m.get 0 b)) else none, e.base.plus w σ hσ (fun n => x.n = n) (some ⟨x.n, x.sh + d.o, none⟩) d.l 0 (fun i => intOf (xs.getD i undef)) hx q4⟩ := by
        refine ⟨fun hi v y hv hy => ?_, plus_xo, plus_low, plus_sm⟩
        have key : ∀ c', d.l ≤ hi → VR (⟨fun b => if b < G.s then e.f (Nat.pred (m.get 0 b)) else none, e.base.plus w σ hσ (fun n => x.n = n) (some ⟨x.n, x.sh + d.o, none⟩) d.l 0 (fun i => intOf (xs.getD i undef)) hx q4⟩ : Env) (.xsu 3 hi) (.slice (some ⟨x.n, x.sh + d.o, none⟩) d.l c') := fun c' hh =>
          .xsu (a := some ⟨x.n, x.sh + d.o, none⟩) (c := 0) plus_x3 hh (fun _ => rfl)
        unfold xOk at hy
        split at hy
        · rename_i b o l c
          simp only [Bool.and_eq_true] at hy
          obtain ⟨y1, y2, y3, y4, y5⟩ := hy
          have y1 := Nat.eq_of_beq_eq_true y1
          have y2 := Nat.eq_of_beq_eq_true y2
          have y3 := Nat.eq_of_beq_eq_true y3
          have y4 := Nat.le_of_ble_eq_true y4
          have y5 := Nat.le_of_ble_eq_true y5
          subst y1 y2
          cases hv with
          | sl hb hl => rw [g1] at hb; injection hb with hb; subst hb; rw [← y3]; exact key _ (by omega)
          | sl0 hb => omega
        · rename_i b o l z
          simp only [Bool.and_eq_true] at hy
          obtain ⟨y1, y2, y3, y4, y5⟩ := hy
          have y1 := Nat.eq_of_beq_eq_true y1
          have y2 := Nat.eq_of_beq_eq_true y2
          have y3 := Nat.eq_of_beq_eq_true y3
          have y4 := Nat.le_of_ble_eq_true y4
          have y5 := Nat.le_of_ble_eq_true y5
          subst y1 y2
          cases hv with
          | slu hb hl hc => rw [g1] at hb; injection hb with hb; subst hb; rw [← y3]; exact key _ (by omega)
          | slu0 hb => omega
        · cases hy
        · cases hy
        · cases hy
      obtain ⟨g1', g2', g3'⟩ := gen_sim (e' := ⟨fun b => if b < G.s then e.f (Nat.pred (m.get 0 b)) else none, e.base.plus w σ hσ (fun n => x.n = n) (some ⟨x.n, x.sh + d.o, none⟩) d.l 0 (fun i => intOf (xs.getD i undef)) hx q4⟩) hkk ha hs hX (fun b => rfl)
        (fun n hn => ((plus_prot n).1 hn).elim .inl (fun h0 => .inr ⟨d.b, x, g1, h0, hlive, q5⟩))
        (fun n hn => ((plus_prot n).1 hn).elim (hs.big n) (fun h0 => h0 ▸ (Array.getElem?_eq_some_iff.1 g2).1))
        (fun n hn => by
          by_cases hp : e.base.prot n
          · exact (hs.old n hp).trans (plus_in hp).symm
          · exact (plus_out hp).symm)
      exact ⟨g1', g2', g3', fun n hn => (plus_prot n).2 (.inl hn), plus_sm⟩
    · cases k6
theorem gen_ok {G : Gst} {S : Sta} (hk : chkS G S = true) (ha : AR D e S.t a) (hs : Sim e S.h w) : ∃ e', Sim e' G.h w ∧ AR D e' G.t a ∧ Free e' G.s ∧ ∀ n, e.base.prot n → e'.base.prot n :=
  let ⟨e', h1, h2, h3, h4, _⟩ := gen_okG (σ := []) hk (sigOk_at rfl) ha hs
  ⟨e', h1, h2, h3, h4⟩
end Go.Ev
namespace Go.Ev
open Go.RowKit
variable {P : Program} {pr : Prims} {ih : Rn} {e e' : Env} {t : T V} {h : H} {s : Nat} {w w0 : World} {a : Act} {r : RO} {k : K}
mutual
/-- The blocks called anew. -/
noncomputable def renV (f : Nat → Nat) : V → V
  | .ptr b o => .ptr (f b) o
  | .sl b o l c => .sl (f b) o l c
  | .slu b o l z => .slu (f b) o l z
  | .map b => .map (f b)
  | .yld b => .yld (f b)
  | .fn g l => .fn g (renVs f l)
  | .ifc t v => .ifc t (renV f v)
  | .agg l => .agg (renVs f l)
  | .tup l => .tup (renVs f l)
  | .mfn m v => .mfn m (renV f v)
  | .bfn g v => .bfn g (renV f v)
  | v => v
noncomputable def renVs (f : Nat → Nat) : List V → List V
  | [] => []
  | v :: l => renV f v :: renVs f l
end
noncomputable def renEs (f : Nat → Nat) : List (V × V × Nat) → List (V × V × Nat)
  | [] => []
  | (k, v, n) :: l => (renV f k, renV f v, n) :: renEs f l
noncomputable def renB (f : Nat → Nat) : B → B
  | .cells t n => .cells (tree (renVs f (rdCells t n 0))) n
  | .map es c => .map (renEs f es) c
  | .iter none a b c => .iter none a b c
  | .iter (some m) a b c => .iter (some (f m)) a b c
  | .loop _ _ _ _ => .gone
  | .gone => .gone
mutual
theorem VR.ren {f : Nat → Nat} (hf : ∀ b x, e.f b = some x → e'.f (f b) = some x) (hb : e'.base = e.base) : ∀ {v x}, VR e v x → VR e' (renV f v) x
  | _, _, .int k n => .int k n
  | _, _, .bool b => .bool b
  | _, _, .str s => .str s
  | _, _, .nilp => .nilp
  | _, _, .ptr h => .ptr (hf _ _ h)
  | _, _, .nils => .nils
  | _, _, .sl h hl => .sl (hf _ _ h) hl
  | _, _, .slu h hl hc => .slu (hf _ _ h) hl hc
  | _, _, .slu0 h hx => .slu0 (hf _ _ h) hx
  | _, _, .sl0 h => .sl0 (hf _ _ h)
  | _, _, .nilm => .nilm
  | _, _, .map h => .map (hf _ _ h)
  | _, _, .nilf => .nilf
  | _, _, .fn h => .fn (VRs.ren hf hb h)
  | _, _, .nili => .nili
  | _, _, .ifc h => .ifc (VR.ren hf hb h)
  | _, _, .agg h => .agg (VRs.ren hf hb h)
  | _, _, .tup h => .tup (VRs.ren hf hb h)
  | _, _, .yld h => .yld (hf _ _ h)
  | _, _, .mfn h => .mfn (VR.ren hf hb h)
  | _, _, .bfn h => .bfn (VR.ren hf hb h)
  | _, _, .iv h1 h2 => .iv h1 h2
  | _, _, .opq h1 h2 => .opq h1 h2
  | _, _, .usl h1 h2 => .usl h1 h2
  | _, _, .sx h hw => .sx (by rw [hb]; exact h) hw
  | _, _, .ss h => .ss (by rw [hb]; exact h)
  | _, _, .xsl h hl hc => .xsl (by rw [hb]; exact h) hl hc
  | _, _, .xp h hl => .xp (by rw [hb]; exact h) hl
  | _, _, .xsu h hl ha => .xsu (by rw [hb]; exact h) hl ha
theorem VRs.ren {f : Nat → Nat} (hf : ∀ b x, e.f b = some x → e'.f (f b) = some x) (hb : e'.base = e.base) : ∀ {l xs}, VRs e l xs → VRs e' (renVs f l) xs
  | _, _, .nil => .nil
  | _, _, .cons h t => .cons (VR.ren hf hb h) (VRs.ren hf hb t)
end
theorem ER.ren {f : Nat → Nat} (hf : ∀ b x, e.f b = some x → e'.f (f b) = some x) (hb : e'.base = e.base) : ∀ {l es}, ER e l es → ER e' (renEs f l) es
  | _, _, .nil => .nil
  | _, _, .cons hk hv t => .cons (hk.ren hf hb) (hv.ren hf hb) (ER.ren hf hb t)
theorem renVs_len (f : Nat → Nat) : ∀ l : List V, (renVs f l).length = l.length
  | [] => rfl
  | _ :: l => by show (renVs f l).length + 1 = _; rw [renVs_len f l]; rfl
theorem BR.ren {f : Nat → Nat} (hf : ∀ b x, e.f b = some x → e'.f (f b) = some x) (hb : e'.base = e.base) {x : Loc} {b : B} {o : Obj} (h : BR e x b o) (hl : renB f b ≠ .gone) : BR e' x (renB f b) o := by
  cases h with
  | @cells n sh sz t m c el fr hs hm hc hh hfr =>
    obtain ⟨xs, g1, g2, g3⟩ := rd_ok (x := ⟨n, sh, sz⟩) (o := 0) (z := m) hc (by omega)
    have hv := g2.ren hf hb
    have hlen : (renVs f (rdCells t m 0)).length = m := by rw [renVs_len, rdCells_len]
    refine .cells hs hm (fun i hi => ?_) (fun i hi => (tree_has _ _).2 (by omega)) hfr
    obtain ⟨y, q1, q2⟩ := hv.get un i (by omega)
    refine ⟨y, by simpa using g3 i y q1, ?_⟩
    rw [tree_get _ _ (by omega)]
    exact q2
  | map h => exact .map (h.ren hf hb)
  | iter0 => exact .iter0
  | iter h => exact .iter (hf _ _ h)
  | loop h1 h2 h3 h4 h5 h6 h7 => exact absurd rfl hl
/-- What is known of a call: from arguments and blocks to a result and blocks. -/
structure Summ where
  args : List V
  l : List (Nat × B)
  s : Nat
  res : V
  l' : List (Nat × B)
  s' : Nat
noncomputable def Summ.hp (S : Summ) : H := S.l.foldl (fun h p => h.set p.1 p.2) E0
noncomputable def Summ.hq (S : Summ) : H := S.l'.foldl (fun h p => h.set p.1 p.2) E0
/-- The summary is true. -/
def SummOk (P : Program) (F : Nat) (S : Summ) : Prop := S.s ≤ S.s' ∧ ∀ e w xs, VRs e S.args xs → Sim e S.hp w → Free e S.s →
  Calls P F ⟨xs⟩ w (fun en w' => ∃ x, en = .returned x ∧ ∃ e', VR e' S.res x ∧ Post e S.s S.hp w e' S.s' S.hq w')
/-- The numbers of the summary, in the memory at hand. -/
noncomputable def sumR (m : T Nat) (S : Summ) (s b : Nat) : Nat := bif Nat.ble S.s b then Nat.add s (Nat.sub b S.s) else Nat.pred (m.get 0 b)
noncomputable def sumL (m : T Nat) (S : Summ) (s : Nat) : List (Nat × B) :=
  S.l.map (fun p => (Nat.pred (m.get 0 p.1), B.gone)) ++ S.l'.map (fun p => (sumR m S s p.1, renB (sumR m S s) (S.hq.get .gone p.1)))
noncomputable def newOk (h : H) (s : Nat) : Nat → Bool
  | 0 => true
  | n + 1 => h.has (Nat.add s n) && newOk h s n
/-- The summary fits. -/
noncomputable def sumC (q : Rm) (i : T Nat) (S : Summ) (args : List V) (h : H) (s : Nat) : Bool :=
  leVs q S.args args && (S.l.all (fun p => chkB q i S.hp h p.1 (Nat.pred (q.m.get 0 p.1))) && newOk h s (Nat.sub S.s' S.s))
noncomputable def sumV (vis : List (Nat × Nat)) (S : Summ) (args : List V) (h : H) (s : Nat) (k : K) (no : RO) : RO :=
  bif sumC ⟨renOf vis, S.s, some ⟨0, 0, 0⟩, []⟩ (invOf vis) S args h s then k (renV (sumR (renOf vis) S s) S.res) ((sumL (renOf vis) S s).foldl (fun h p => h.set p.1 p.2) h) (Nat.add s (Nat.sub S.s' S.s)) else no
noncomputable def sumQ (S : Summ) (args : List V) (h : H) (s : Nat) (k : K) (no : RO) : RO := sumV (reach S.hp h 100000 (prs S.args args) N0 []) S args h s k no
theorem fold_get : ∀ (l : List (Nat × B)) (h : H) (b : Nat), (∃ p, p ∈ l ∧ p.1 = b ∧ (l.foldl (fun h p => h.set p.1 p.2) h).get .gone b = p.2) ∨ ((∀ p, p ∈ l → p.1 ≠ b) ∧ (l.foldl (fun h p => h.set p.1 p.2) h).get .gone b = h.get .gone b) ∨ (l.foldl (fun h p => h.set p.1 p.2) h).get .gone b = .gone
  | [], h, b => .inr (.inl ⟨by simp, rfl⟩)
  | p :: l, h, b => by
    rcases fold_get l (h.set p.1 p.2) b with ⟨q, h1, h2, h3⟩ | ⟨h1, h2⟩ | h1
    · exact .inl ⟨q, by simp [h1], h2, h3⟩
    · by_cases hb : b = p.1
      · cases hh : h.has p.1 with
        | true =>
          rw [T.get_set .gone h p.1 b p.2 hh, if_pos hb] at h2
          exact .inl ⟨p, by simp, hb.symm, h2⟩
        | false =>
          rw [T.set_off h p.1 p.2 hh, hb, T.get_off .gone h p.1 hh] at h2
          refine .inr (.inr ?_)
          rw [List.foldl_cons, T.set_off h p.1 p.2 hh, hb]; exact h2
      · refine .inr (.inl ⟨fun q hq => ?_, ?_⟩)
        · rcases List.mem_cons.1 hq with rfl | hq
          · exact fun h => hb h.symm
          · exact h1 q hq
        · show ((p :: l).foldl (fun h p => h.set p.1 p.2) h).get .gone b = _
          rw [List.foldl_cons, h2]
          cases hh : h.has p.1 with
          | true => rw [T.get_set .gone h p.1 b p.2 hh, if_neg hb]
          | false => rw [T.set_off h p.1 p.2 hh]
    · exact .inr (.inr h1)
theorem newOk_has {h : H} {s : Nat} : ∀ {n : Nat}, newOk h s n = true → ∀ i, i < n → h.has (s + i) = true
  | 0, _, i, hi => by omega
  | n + 1, hk, i, hi => by
    simp only [newOk, Bool.and_eq_true] at hk
    by_cases h0 : i = n
    · subst h0; exact hk.1
    · exact newOk_has hk.2 i (by omega)
/-- A call that fits a summary. -/
theorem sum_ok {F : Nat} {S : Summ} (hS : SummOk P F S) {m i : T Nat} {args : List V} (hk : sumC ⟨m, S.s, some ⟨0, 0, 0⟩, []⟩ i S args h s = true) {xs : List Value} (hx : VRs e args xs) (hs : Sim e h w) (hf : Free e s) :
    Calls P F ⟨xs⟩ w (fun en w' => ∃ x, en = .returned x ∧ ∃ e2, VR e2 (renV (sumR m S s) S.res) x ∧ Post e s h w e2 (Nat.add s (Nat.sub S.s' S.s)) ((sumL m S s).foldl (fun h p => h.set p.1 p.2) h) w') := by
  unfold sumC at hk
  simp only [Bool.and_eq_true] at hk
  obtain ⟨k1, k2, k3⟩ := hk
  obtain ⟨hss, hC⟩ := hS
  have hnew : Nat.sub S.s' S.s = S.s' - S.s := rfl
  let e1 : Env := ⟨fun b => if b < S.s then e.f (Nat.pred (m.get 0 b)) else none, e.base⟩
  have he1 : ∀ b, e1.f b = if b < S.s then e.f (Nat.pred (m.get 0 b)) else none := fun b => rfl
  have hE : ∀ b' b, rn ⟨m, S.s, some ⟨0, 0, 0⟩, []⟩ b' b = true → e1.f b' = e.f b := fun b' b hr => by
    unfold rn at hr
    simp only [Bool.and_eq_true] at hr
    have h1 := Nat.le_of_ble_eq_true hr.1
    have h2 := Nat.eq_of_beq_eq_true hr.2
    rw [he1, if_pos (show b' < S.s from h1)]
    show e.f (Nat.pred (m.get 0 b')) = _
    rw [h2]; rfl
  have hX : XLe ⟨m, S.s, some ⟨0, 0, 0⟩, []⟩ e e1 := by
    refine ⟨fun hi v x hv hy => ?_, fun _ _ => rfl, fun _ _ => rfl, fun j hj => ?_⟩
    · exfalso
      unfold xOk at hy
      dsimp only at hy
      split at hy
      · simp only [Bool.and_eq_true] at hy
        have y3 := Nat.eq_of_beq_eq_true hy.2.2.1
        have y4 := Nat.le_of_ble_eq_true hy.2.2.2.1
        omega
      · simp only [Bool.and_eq_true] at hy
        have y3 := Nat.eq_of_beq_eq_true hy.2.2.1
        have y4 := Nat.le_of_ble_eq_true hy.2.2.2.1
        omega
      · cases hy
      · cases hy
      · cases hy
    · show e.base.ρ j = 0 + (e.base.ρ j + 0); omega
  have hB : ∀ b', live S.hp b' → ∃ b, b' < S.s ∧ Nat.pred (m.get 0 b') = b ∧ e1.f b' = e.f b ∧ i.get 0 b = Nat.succ b' ∧ leB ⟨m, S.s, some ⟨0, 0, 0⟩, []⟩ (S.hp.get .gone b') (h.get .gone b) = true ∧ ∃ p, p ∈ S.l ∧ p.1 = b' := fun b' hl => by
    rcases fold_live S.l E0 b' hl with h1 | ⟨p, h1, h2⟩
    · exact (E0_gone b' h1).elim
    · have h3 := List.all_eq_true.1 k2 p h1
      rw [h2] at h3
      unfold chkB at h3
      simp only [Bool.and_eq_true] at h3
      have h5 := h3.1
      unfold rn at h5
      simp only [Bool.and_eq_true] at h5
      exact ⟨_, Nat.le_of_ble_eq_true h5.1, rfl, hE _ _ h3.1, Nat.eq_of_beq_eq_true h3.2.1, h3.2.2, p, h1, h2⟩
  have hin : ∀ b x, live h b → e.f b = some x → x.n < w.heap.size := fun b x hl hx => by
    obtain ⟨x', o', g1, g2, _⟩ := hs.blk b hl
    rw [hx] at g1; injection g1 with g1; subst g1
    exact (Array.getElem?_eq_some_iff.1 g2).1
  have hsome : ∀ b x, e.f b = some x → b < s := fun b x hx => by
    rcases Nat.lt_or_ge b s with h1 | h1
    · exact h1
    · have h0 := hf b h1
      change e.f b = none at h0
      rw [h0] at hx; cases hx
  have hs1 : Sim e1 S.hp w := by
    refine ⟨fun b' hl => ?_, fun b1 b2 x1 x2 hl1 hl2 he1' he2' hn => ?_, hs.big, hs.old, fun b' x hl hx hp => ?_⟩
    · obtain ⟨b, h1, _, h2, h3, h4, _⟩ := hB b' hl
      obtain ⟨x, o', g1, g2, g3⟩ := hs.blk b (leB_live h4)
      exact ⟨x, o', h2.trans g1, g2, leB_ok hE hX g3 h4⟩
    · obtain ⟨c1, h1, _, h2, h3, h4, _⟩ := hB b1 hl1
      obtain ⟨c2, g1, _, g2, g3, g4, _⟩ := hB b2 hl2
      have := hs.inj c1 c2 x1 x2 (leB_live h4) (leB_live g4) (h2.symm.trans he1') (g2.symm.trans he2') hn
      subst this
      rw [h3] at g3; injection g3
    · obtain ⟨b, h1, _, h2, h3, h4, _⟩ := hB b' hl
      exact hs.above b x (leB_live h4) (h2.symm.trans hx) hp
  have hf1 : Free e1 S.s := fun b hb => by
    show e1.f b = none
    rw [he1, if_neg (by omega)]
  refine Calls.mono (hC e1 w xs (leVs_ok hE hX hx _ k1) hs1 hf1) (fun en w' hq => ?_)
  obtain ⟨x, rfl, e3, hv, hp⟩ := hq
  refine ⟨x, rfl, ?_⟩
  let e2 : Env := ⟨fun b => if b < s then e.f b else if b < s + (S.s' - S.s) then e3.f (S.s + (b - s)) else none, e.base⟩
  have he2 : ∀ b, e2.f b = if b < s then e.f b else if b < s + (S.s' - S.s) then e3.f (S.s + (b - s)) else none := fun b => rfl
  have h3some : ∀ b x, e3.f b = some x → b < S.s' := fun b x hx => by
    rcases Nat.lt_or_ge b S.s' with h1 | h1
    · exact h1
    · have h0 := hp.free b h1
      change e3.f b = none at h0
      rw [h0] at hx; cases hx
  have hρ : ∀ b x, e3.f b = some x → e2.f (sumR m S s b) = some x := fun b x hx => by
    unfold sumR
    cases hb : Nat.ble S.s b with
    | true =>
      have hb := Nat.le_of_ble_eq_true hb
      have := h3some b x hx
      show e2.f (s + (b - S.s)) = some x
      rw [he2, if_neg (by omega), if_pos (by omega)]
      rw [show S.s + (s + (b - S.s) - s) = b by omega]; exact hx
    | false =>
      have hb : b < S.s := by
        rcases Nat.lt_or_ge b S.s with h1 | h1
        · exact h1
        · rw [Nat.ble_eq_true_of_le h1] at hb; cases hb
      have hl : e3.f b = e1.f b := hp.low b hb
      rw [hl, he1, if_pos hb] at hx
      show e2.f (Nat.pred (m.get 0 b)) = some x
      rw [he2, if_pos (hsome _ _ hx)]; exact hx
  have hb3 : e2.base = e3.base := by rw [hp.le.base]
  have hle : e.le e2 := ⟨fun b x hx => by
    show e2.f b = some x
    rw [he2, if_pos (hsome b x hx)]; exact hx, rfl⟩
  -- what lies at a number behind the call
  have hcase : ∀ b, live ((sumL m S s).foldl (fun h p => h.set p.1 p.2) h) b →
      (∃ b', sumR m S s b' = b ∧ ((sumL m S s).foldl (fun h p => h.set p.1 p.2) h).get .gone b = renB (sumR m S s) (S.hq.get .gone b') ∧ live S.hq b') ∨
      ((∀ b', live S.hp b' → Nat.pred (m.get 0 b') ≠ b) ∧ ((sumL m S s).foldl (fun h p => h.set p.1 p.2) h).get .gone b = h.get .gone b ∧ live h b) := fun b hl => by
    rcases fold_get (sumL m S s) h b with ⟨p, h1, h2, h3⟩ | ⟨h1, h2⟩ | h1
    · unfold sumL at h1
      rcases List.mem_append.1 h1 with h4 | h4
      · obtain ⟨p', h5, rfl⟩ := List.mem_map.1 h4
        unfold live at hl
        rw [h3] at hl
        exact (hl rfl).elim
      · obtain ⟨p', h5, rfl⟩ := List.mem_map.1 h4
        refine .inl ⟨p'.1, h2, h3, fun hg => ?_⟩
        unfold live at hl
        rw [h3] at hl
        apply hl
        show renB _ (S.hq.get .gone p'.1) = .gone
        rw [hg]; rfl
    · refine .inr ⟨fun b' hb' hbb => ?_, h2, ?_⟩
      · obtain ⟨c, g1, g2, g3, g4, g5, p, g6, g7⟩ := hB b' hb'
        exact h1 (Nat.pred (m.get 0 p.1), B.gone) (by
          unfold sumL
          exact List.mem_append.2 (.inl (List.mem_map.2 ⟨p, g6, rfl⟩))) (by
          show Nat.pred (m.get 0 p.1) = b
          rw [g7]; exact hbb)
      · unfold live at hl ⊢
        rw [← h2]; exact hl
    · exact absurd h1 hl
  -- blocks of the summary's memory lie among those at hand
  have hold : ∀ b', live S.hp b' → ∀ x, e1.f b' = some x → ∃ c, c = Nat.pred (m.get 0 b') ∧ live h c ∧ e.f c = some x := fun b' hl x hx => by
    obtain ⟨c, g1, g2, g3, g4, g5, _⟩ := hB b' hl
    exact ⟨c, g2.symm, leB_live g5, g3.symm.trans hx⟩
  have hkeep : ∀ n, n < w.heap.size → (∀ c x, live h c → e.f c = some x → (∃ b', live S.hp b' ∧ Nat.pred (m.get 0 b') = c) → x.n ≠ n) → w'.heap[n]? = w.heap[n]? := fun n hn hne => by
    refine hp.keep n hn (fun b' x hl hx => ?_)
    obtain ⟨c, g1, g2, g3⟩ := hold b' hl x hx
    exact hne c x g2 g3 ⟨b', hl, g1.symm⟩
  have hloc : ∀ b', live S.hq b' → ∃ x o, e3.f b' = some x ∧ w'.heap[x.n]? = some o ∧ BR e3 x (S.hq.get .gone b') o := fun b' hl => hp.sim.blk b' hl
  have hdom : ∀ b' x, live S.hq b' → e3.f b' = some x → (∃ c x', live h c ∧ e.f c = some x' ∧ x'.n = x.n ∧ ∃ b0, live S.hp b0 ∧ Nat.pred (m.get 0 b0) = c) ∨ w.heap.size ≤ x.n := fun b' x hl hx => by
    rcases hp.dom b' x hl hx with ⟨b0, x0, g1, g2, g3⟩ | g1
    · obtain ⟨c, q1, q2, q3⟩ := hold b0 g1 x0 g2
      exact .inl ⟨c, x0, q2, q3, g3, b0, g1, q1.symm⟩
    · exact .inr g1
  have hbase : e3.base = e.base := hp.le.base
  have hloc2 : ∀ b b' x, sumR m S s b' = b → live S.hq b' → e2.f b = some x → e3.f b' = some x := fun b b' x hb hl hx => by
    obtain ⟨y, o, g1, _, _⟩ := hloc b' hl
    have := hρ b' y g1
    rw [hb, hx] at this
    rw [g1]; exact this.symm
  have hold2 : ∀ b x, live h b → e2.f b = some x → e.f b = some x := fun b x hl hx => by
    obtain ⟨y, o, g1, _, _⟩ := hs.blk b hl
    have := hle.of b y g1
    change e2.f b = some y at this
    rw [hx] at this
    injection this with this
    subst this; exact g1
  have hsim : Sim e2 ((sumL m S s).foldl (fun h p => h.set p.1 p.2) h) w' := by
    refine ⟨fun b hl => ?_, fun b c x y hl1 hl2 hx hy hn => ?_, fun n hn => Nat.lt_of_lt_of_le (hs.big n hn) hp.size, fun n hn => ?_, fun b x hl hx hpn => ?_⟩
    · rcases hcase b hl with ⟨b', h1, h2, h3⟩ | ⟨h1, h2, h3⟩
      · obtain ⟨x, o, g1, g2, g3⟩ := hloc b' h3
        refine ⟨x, o, h1 ▸ hρ b' x g1, g2, ?_⟩
        rw [h2]
        refine g3.ren hρ hb3 (fun hg => ?_)
        unfold live at hl
        rw [h2] at hl
        exact hl hg
      · obtain ⟨x, o, g1, g2, g3⟩ := hs.blk b h3
        refine ⟨x, o, hle.of b x g1, ?_, by rw [h2]; exact g3.mono hle⟩
        rw [hkeep x.n (hin b x h3 g1) (fun c x' hc hx' ⟨b', hb', hbc⟩ hn => ?_)]
        · exact g2
        · have := hs.inj c b x' x hc h3 hx' g1 hn
          exact h1 b' hb' (hbc.trans this)
    · rcases hcase b hl1 with ⟨b', h1, h2, h3⟩ | ⟨h1, h2, h3⟩
      · have hx3 := hloc2 b b' x h1 h3 hx
        rcases hcase c hl2 with ⟨c', g1, g2, g3⟩ | ⟨g1, g2, g3⟩
        · have hy3 := hloc2 c c' y g1 g3 hy
          have := hp.sim.inj b' c' x y h3 g3 hx3 hy3 hn
          rw [← h1, ← g1, this]
        · have hy3 := hold2 c y g3 hy
          rcases hdom b' x h3 hx3 with ⟨d, x', q1, q2, q3, b0, q4, q5⟩ | q1
          · have := hs.inj d c x' y q1 g3 q2 hy3 (q3.trans hn)
            exact absurd (q5.trans this) (g1 b0 q4)
          · have := hin c y g3 hy3
            omega
      · have hx3 := hold2 b x h3 hx
        rcases hcase c hl2 with ⟨c', g1, g2, g3⟩ | ⟨g1, g2, g3⟩
        · have hy3 := hloc2 c c' y g1 g3 hy
          rcases hdom c' y g3 hy3 with ⟨d, y', q1, q2, q3, b0, q4, q5⟩ | q1
          · have := hs.inj d b y' x q1 h3 q2 hx3 (q3.trans hn.symm)
            exact absurd (q5.trans this) (h1 b0 q4)
          · have := hin b x h3 hx3
            omega
        · exact hs.inj b c x y h3 g3 hx3 (hold2 c y g3 hy) hn
    · have := hp.sim.old n (by rw [hbase]; exact hn)
      rw [hbase] at this; exact this
    · rcases hcase b hl with ⟨b', h1, h2, h3⟩ | ⟨h1, h2, h3⟩
      · exact hp.sim.above b' x h3 (hloc2 b b' x h1 h3 hx) (by rw [hbase]; exact hpn)
      · exact hs.above b x h3 (hold2 b x h3 hx) hpn
  refine ⟨e2, hv.ren hρ hb3, ⟨hle, fun b hb => ?_, Nat.le_add_right _ _, fun b hb => ?_, hsim, fun b x hl hx => ?_, fun n hn hk => hkeep n hn (fun c x hc hx _ => hk c x hc hx), hp.size, hp.os, hp.tape, hp.output⟩⟩
  · show e2.f b = e.f b
    rw [he2, if_pos hb]
  · have hb : s + (S.s' - S.s) ≤ b := hb
    show e2.f b = none
    rw [he2, if_neg (by omega), if_neg (by omega)]
  · rcases hcase b hl with ⟨b', h1, h2, h3⟩ | ⟨h1, h2, h3⟩
    · rcases hdom b' x h3 (hloc2 b b' x h1 h3 hx) with ⟨c, x', q1, q2, q3, _⟩ | q1
      · exact .inl ⟨c, x', q1, q2, q3⟩
      · exact .inr q1
    · exact .inl ⟨b, x, h3, hold2 b x h3 hx, rfl⟩
end Go.Ev
