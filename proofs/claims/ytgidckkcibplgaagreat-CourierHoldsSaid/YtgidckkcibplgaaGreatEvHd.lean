/- An evaluator of the model's code: its quick form is sound. -/
import Derived.Test.YtgidckkcibplgaaGreatEvHc
import Derived.Test.YtgidckkcibplgaaGreatEvS
import Derived.Test.YtgidckkcibplgaaGreatEvZf
set_option linter.unusedVariables false
set_option linter.unusedSimpArgs false
namespace Go.Ev
open Go.RowKit
variable {D : List Deferred}
variable {P : Program} {pr : Prims} {ih : Rn} {e : Env} {t : T V} {h : H} {s : Nat} {w : World} {a : Act} {r : RO} {k : K} {o : Oper}
/-- The loop, whose body is known. -/
theorem loopC_arrives (hih : SoundRn P ih) {c : Code} {b0 : Bx RC} (hb0 : ∀ t h s, (appR b0 ih t h s).good → ∀ D e a w, AR D e t a → Sim e h w → Free e s → c.wp P (LR D (appR b0 ih t h s) e s h w) a w)
    (hr : ((appR b0 ih t h s).bnd (fun t h s => ih (.loop c) t h s) .exit .ret).good) (ha : AR D e t a) (hs : Sim e h w) (hf : Free e s) (b : Frame) (k : List Item) (cs : List Frame) :
    ∃ x a' w', LR D ((appR b0 ih t h s).bnd (fun t h s => ih (.loop c) t h s) .exit .ret) e s h w x a' w' ∧ Arrives P (lone (b.at a (.code c :: .inLoop c :: k)) cs w) b k cs x a' w' := by
  obtain ⟨x1, a1, w1, hq, harr⟩ := hb0 t h s (RO.good_bnd hr) D e a w ha hs hf b (.inLoop c :: k) cs
  obtain ⟨l, g1, g2, g3⟩ := hq.leaf
  have hsub := g1.bnd (fun t h s => ih (.loop c) t h s) .exit .ret
  cases l with
  | norm t' h' s' =>
    obtain ⟨rfl, e', ha', hp⟩ := g3
    obtain ⟨x2, a2, w2, hq2, harr2⟩ := hih.loop c t' h' s' (hsub.good hr) D e' a1 w1 ha' hp.sim hp.free b k cs
    exact ⟨x2, a2, w2, LR.sub hsub (LR.trans hp hq2), .of_steps (Steps.trans harr (.one step_inLoop)) harr2⟩
  | exit id t' h' s' =>
    obtain ⟨rfl, hq'⟩ := g3
    exact ⟨_, a1, w1, LR.sub hsub ⟨rfl, hq'⟩, .pass (x := .inLoop c) rfl (fun _ _ => .inl (by simp)) harr⟩
  | ret t' h' s' =>
    obtain ⟨rfl, hq'⟩ := g3
    exact ⟨_, a1, w1, LR.sub hsub ⟨rfl, hq'⟩, .pass (x := .inLoop c) rfl (fun _ _ => .inl (by simp)) harr⟩
  | err n => exact g3.elim
  | or _ _ => exact g2.elim
theorem codC_ok (hm : P.follows .mixedOrders = true) (hih : SoundRn P ih) (hpr : SoundPr P pr) : ∀ (c : Code) t h s, (appR (codC P pr c) ih t h s).good → ∀ D e a w, AR D e t a → Sim e h w → Free e s → c.wp P (LR D (appR (codC P pr c) ih t h s) e s h w) a w
  | .skip, t, h, s, hr, D, e, a, w, ha, hs, hf => wp_skip ⟨rfl, e, ha, Post.refl hs hf⟩
  | .label l, t, h, s, hr, D, e, a, w, ha, hs, hf => wp_label ⟨rfl, e, ha, Post.refl hs hf⟩
  | .exit id, t, h, s, hr, D, e, a, w, ha, hs, hf => wp_exit ⟨rfl, e, ha, Post.refl hs hf⟩
  | .ret, t, h, s, hr, D, e, a, w, ha, hs, hf => wp_ret ⟨rfl, e, ha, Post.refl hs hf⟩
  | .region id ops d, t, h, s, hr, D, e, a, w, ha, hs, hf => by
    cases d with
    | false =>
      change (appR (regC P pr ops.toList ops.toList) ih t h s).good at hr
      show (Code.region id ops false).wp P (LR D (appR (regC P pr ops.toList ops.toList) ih t h s) e s h w) a w
      obtain ⟨q, hq, hq2⟩ := appR_good hr
      rw [hq2] at hr ⊢
      exact regionC_ok hih hpr hq hr ha hs hf
    | true =>
      change (appR (drawnC P pr ops.toList) ih t h s).good at hr
      show (Code.region id ops true).wp P (LR D (appR (drawnC P pr ops.toList) ih t h s) e s h w) a w
      obtain ⟨q, hq, hq2⟩ := appR_good hr
      rw [hq2] at hr ⊢
      have he := drawnC_eq hq hr
      rw [he] at hr ⊢
      exact drawn_ok hm hih hpr hr ha hs hf
  | .seq x y, t, h, s, hr, D, e, a, w, ha, hs, hf => by
    change ((appR (codC P pr x) ih t h s).bnd (fun t h s => appR (codC P pr y) ih t h s) .exit .ret).good at hr
    show (Code.seq x y).wp P (LR D ((appR (codC P pr x) ih t h s).bnd (fun t h s => appR (codC P pr y) ih t h s) .exit .ret) e s h w) a w
    refine wp_seq (wp_mono (codC_ok hm hih hpr x t h s (RO.good_bnd hr) D e a w ha hs hf) (fun x1 a1 w1 hq => ?_))
    obtain ⟨l, g1, g2, g3⟩ := hq.leaf
    have hsub := g1.bnd (fun t h s => appR (codC P pr y) ih t h s) .exit .ret
    cases l with
    | norm t' h' s' =>
      obtain ⟨rfl, e', ha', hp⟩ := g3
      exact wp_mono (codC_ok hm hih hpr y t' h' s' (hsub.good hr) D e' a1 w1 ha' hp.sim hp.free) (fun _ _ _ q => LR.sub hsub (LR.trans hp q))
    | exit id t' h' s' =>
      obtain ⟨rfl, hq'⟩ := g3
      exact LR.sub hsub ⟨rfl, hq'⟩
    | ret t' h' s' =>
      obtain ⟨rfl, hq'⟩ := g3
      exact LR.sub hsub ⟨rfl, hq'⟩
    | err n => exact g3.elim
    | or _ _ => exact g2.elim
  | .cond c x y, t, h, s, hr, D, e, a, w, ha, hs, hf => by
    change (appR (Bx.rec (motive := fun _ => Bx RC) .no (fun g => .mk (fun ih t h s => getB (g t) (appR (codC P pr x) ih t h s) (appR (codC P pr y) ih t h s) (.err 140))) (opdC c)) ih t h s).good at hr
    show (Code.cond c x y).wp P (LR D (appR (Bx.rec (motive := fun _ => Bx RC) .no (fun g => .mk (fun ih t h s => getB (g t) (appR (codC P pr x) ih t h s) (appR (codC P pr y) ih t h s) (.err 140))) (opdC c)) ih t h s) e s h w) a w
    cases hg : opdC c with
    | no => rw [hg] at hr; exact hr.elim
    | mk g =>
      rw [hg] at hr
      change (getB (g t) (appR (codC P pr x) ih t h s) (appR (codC P pr y) ih t h s) (.err 140)).good at hr
      show (Code.cond c x y).wp P (LR D (getB (g t) (appR (codC P pr x) ih t h s) (appR (codC P pr y) ih t h s) (.err 140)) e s h w) a w
      obtain ⟨v, h1, hv⟩ := opnd_ok (a := a) (t := t) (x := c) (f := fun v => .norm (.node v .nil .nil) h s) (r := .norm (.node (g t) .nil .nil) h s) (opdC_ok hg t _) trivial ha
      have hvg : v = g t := by injection h1 with h1; injection h1
      rw [hvg] at hv
      rcases getB_cases (g t) (appR (codC P pr x) ih t h s) (appR (codC P pr y) ih t h s) (.err 140) with ⟨b, hb, h2⟩ | h2
      · rw [hb] at hv
        generalize hc : a.eval c = cv at hv
        cases hv
        rw [h2] at hr ⊢
        cases b with
        | true => exact wp_cond_true hc (codC_ok hm hih hpr x t h s hr D e a w ha hs hf)
        | false => exact wp_cond_false hc (codC_ok hm hih hpr y t h s hr D e a w ha hs hf)
      · rw [h2] at hr; exact hr.elim
  | .block id c, t, h, s, hr, D, e, a, w, ha, hs, hf => by
    change ((appR (codC P pr c) ih t h s).bnd .norm (fun i t h s => bif Nat.beq i id then .norm t h s else .exit i t h s) .ret).good at hr
    show (Code.block id c).wp P (LR D ((appR (codC P pr c) ih t h s).bnd .norm (fun i t h s => bif Nat.beq i id then .norm t h s else .exit i t h s) .ret) e s h w) a w
    refine wp_block (wp_mono (codC_ok hm hih hpr c t h s (RO.good_bnd hr) D e a w ha hs hf) (fun x1 a1 w1 hq => ?_))
    obtain ⟨l, g1, g2, g3⟩ := hq.leaf
    have hsub := g1.bnd .norm (fun i t h s => bif Nat.beq i id then .norm t h s else .exit i t h s) .ret
    cases l with
    | norm t' h' s' =>
      obtain ⟨rfl, hq'⟩ := g3
      exact LR.sub hsub ⟨rfl, hq'⟩
    | ret t' h' s' =>
      obtain ⟨rfl, hq'⟩ := g3
      exact LR.sub hsub ⟨rfl, hq'⟩
    | exit i t' h' s' =>
      obtain ⟨rfl, hq'⟩ := g3
      unfold Exit.inBlock
      dsimp only
      change Sub (bif Nat.beq i id then .norm t' h' s' else .exit i t' h' s') _ at hsub
      rw [beq_eq] at hsub
      by_cases hi : i = id
      · rw [if_pos hi]
        simp only [hi, decide_true, cond_true] at hsub
        exact LR.sub hsub ⟨rfl, hq'⟩
      · rw [if_neg hi]
        simp only [hi, decide_false, cond_false] at hsub
        exact LR.sub hsub ⟨rfl, hq'⟩
    | err n => exact g3.elim
    | or _ _ => exact g2.elim
  | .loop c, t, h, s, hr, D, e, a, w, ha, hs, hf => by
    intro b k cs
    obtain ⟨x, a', w', hq, harr⟩ := loopC_arrives hih (b0 := codC P pr c) (fun t h s hr D e a w ha hs hf => codC_ok hm hih hpr c t h s hr D e a w ha hs hf) hr ha hs hf b k cs
    exact ⟨x, a', w', hq, .of_steps (.one step_loop) harr⟩
  | .rangeFunc _ _ _ _, t, h, s, hr, D, e, a, w, ha, hs, hf => hr.elim
  | .scope _, t, h, s, hr, D, e, a, w, ha, hs, hf => hr.elim
  | .goto _, t, h, s, hr, D, e, a, w, ha, hs, hf => hr.elim
  | .refuse _, t, h, s, hr, D, e, a, w, ha, hs, hf => hr.elim
/-- The quick form is sound. -/
theorem runF_sound (hm : P.follows .mixedOrders = true) (hpr : SoundPr P pr) : ∀ n, SoundRn P (runF P pr n)
  | 0 => ⟨fun _ _ _ _ hr => hr.elim, fun _ _ _ _ hr => hr.elim⟩
  | n + 1 => ⟨fun c t h s hr D e a w ha hs hf => codC_ok hm (runF_sound hm hpr n) hpr c t h s hr D e a w ha hs hf,
    fun c t h s hr D e a w ha hs hf b k cs => loopC_arrives (runF_sound hm hpr n) (b0 := codC P pr c) (fun t h s hr D e a w ha hs hf => codC_ok hm (runF_sound hm hpr n) hpr c t h s hr D e a w ha hs hf) hr ha hs hf b k cs⟩
/-- A function that returns true whatever its arguments within what is known of them, by its evaluation. -/
theorem open_okF (hm : P.follows .mixedOrders = true) (hpr : SoundPr P pr) (n f : Nat) (args : List V) (hk : okB (callV f args P pr (runF P pr n) bare 0 kid) = true) (w : World) (xs : List Value) (B : Base) (hB : BaseAt B w) (hx : VRs (env0 B) args xs) :
    Calls P f ⟨xs⟩ w (fun en w' => en = .returned (.bool true) ∧ Below w.heap.size w w') := by
  generalize hr : callV f args P pr (runF P pr n) bare 0 kid = r at hk
  obtain ⟨_, h3⟩ := callV_ok hr (okB_good hk) (runF_sound hm hpr n) hpr (env0 B) w xs hx (bare_sim hB) (fun _ _ => rfl)
  refine Calls.mono h3 (fun en w' hq => ?_)
  obtain ⟨x, rfl, v, h', s', hsub, e', hv, p⟩ := hq
  have hvt := okB_kid (okB_sub hsub hk)
  subst hvt
  cases hv
  exact ⟨rfl, p.os, p.tape, p.output, p.size, fun k hk => p.keep k hk (fun b x hb => absurd hb (bare_gone b))⟩
/-- One function that ranges over a function, quickly. -/
noncomputable def rfPrF (P : Program) (n F : Nat) : Prims := fun f => bif Nat.beq f F then some (rfV P noPr (runF P noPr n) F) else none
theorem rfPrF_ok (hm : P.follows .mixedOrders = true) (n F : Nat) : SoundPr P (rfPrF P n F) := fun f g h => by
  unfold rfPrF at h
  cases hf : Nat.beq f F with
  | false => rw [hf] at h; cases h
  | true =>
    rw [hf] at h
    simp only [cond_true] at h
    injection h with h
    have := Nat.eq_of_beq_eq_true hf
    subst this
    subst h
    intro args h s k hr
    exact rfV_ok (runF_sound hm noPr_ok n) noPr_ok hr
end Go.Ev
