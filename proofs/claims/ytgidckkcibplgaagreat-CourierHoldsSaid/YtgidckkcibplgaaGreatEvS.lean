/- An evaluator of the model's code, nineteenth part: it is sound. -/
import Derived.Test.YtgidckkcibplgaaGreatEvZb
import Derived.Test.YtgidckkcibplgaaGreatEvRb
set_option linter.unusedVariables false
set_option linter.unusedSimpArgs false
namespace Go.Ev
variable {D : List Deferred}
variable {P : Program} {pr : Prims} {ih : Rn} {e : Env} {t : T V} {h : H} {s : Nat} {w : World} {a : Act} {r : RO} {k : K} {o : Oper}
theorem loop_arrives (hih : SoundRn P ih) {c : Code} (hr : (cLoop c P pr ih t h s).good) (ha : AR D e t a) (hs : Sim e h w) (hf : Free e s) (b : Frame) (k : List Item) (cs : List Frame) :
    ∃ x a' w', LR D (cLoop c P pr ih t h s) e s h w x a' w' ∧ Arrives P (lone (b.at a (.code c :: .inLoop c :: k)) cs w) b k cs x a' w' := by
  unfold cLoop at hr ⊢
  obtain ⟨x1, a1, w1, hq, harr⟩ := hih.wp c t h s (RO.good_bnd hr) D e a w ha hs hf b (.inLoop c :: k) cs
  obtain ⟨l, g1, g2, g3⟩ := hq.leaf
  have hsub := g1.bnd (fun t h s => ih (.loop c) t h s) .exit .ret
  cases l with
  | norm t' h' s' =>
    obtain ⟨rfl, e', ha', hp⟩ := g3
    obtain ⟨x2, a2, w2, hq2, harr2⟩ := hih.loop c t' h' s' (hsub.good hr) D e' a1 w1 ha' hp.sim hp.free b k cs
    exact ⟨x2, a2, w2, LR.sub hsub (LR.trans hp hq2), .of_steps (Steps.trans harr (.one step_inLoop)) harr2⟩
  | exit id t' h' s' =>
    obtain ⟨rfl, hq'⟩ := g3
    exact ⟨_, a1, w1, LR.sub hsub ⟨rfl, hq'⟩, .pass (x := .inLoop c) rfl (fun _ _ => .inl (by simp)) harr⟩
  | ret t' h' s' =>
    obtain ⟨rfl, hq'⟩ := g3
    exact ⟨_, a1, w1, LR.sub hsub ⟨rfl, hq'⟩, .pass (x := .inLoop c) rfl (fun _ _ => .inl (by simp)) harr⟩
  | err n => exact g3.elim
  | or _ _ => exact g2.elim
theorem step_sound (hm : P.follows .mixedOrders = true) (hih : SoundRn P ih) (hpr : SoundPr P pr) : SoundRn P (fun c t h s => codeF c P pr ih t h s) where
  loop := fun c t h s hr D e a w ha hs hf b k cs => loop_arrives (pr := pr) hih hr ha hs hf b k cs
  wp := fun c t h s hr D e a w ha hs hf => by
    cases c with
    | skip => exact wp_skip ⟨rfl, e, ha, Post.refl hs hf⟩
    | label l => exact wp_label ⟨rfl, e, ha, Post.refl hs hf⟩
    | region id ops d =>
      cases d with
      | false => exact region_ok hih hpr hr ha hs hf
      | true => exact drawn_ok hm hih hpr hr ha hs hf
    | seq x y =>
      change (cSeq x y P pr ih t h s).good at hr
      show (Code.seq x y).wp P (LR D (cSeq x y P pr ih t h s) e s h w) a w
      unfold cSeq at hr ⊢
      refine wp_seq (wp_mono (hih.wp x t h s (RO.good_bnd hr) D e a w ha hs hf) (fun x1 a1 w1 hq => ?_))
      obtain ⟨l, g1, g2, g3⟩ := hq.leaf
      have hsub := g1.bnd (fun t h s => ih y t h s) .exit .ret
      cases l with
      | norm t' h' s' =>
        obtain ⟨rfl, e', ha', hp⟩ := g3
        exact wp_mono (hih.wp y t' h' s' (hsub.good hr) D e' a1 w1 ha' hp.sim hp.free) (fun _ _ _ q => LR.sub hsub (LR.trans hp q))
      | exit id t' h' s' =>
        obtain ⟨rfl, hq'⟩ := g3
        exact LR.sub hsub ⟨rfl, hq'⟩
      | ret t' h' s' =>
        obtain ⟨rfl, hq'⟩ := g3
        exact LR.sub hsub ⟨rfl, hq'⟩
      | err n => exact g3.elim
      | or _ _ => exact g2.elim
    | cond c x y =>
      obtain ⟨v, h1, hv⟩ := opnd_ok (a := a) (t := t) (x := c) (f := fun v => condF x y ih t h s v) rfl hr ha
      generalize hc : a.eval c = cv at hv
      have h1' : codeF (.cond c x y) P pr ih t h s = condF x y ih t h s v := h1.symm
      show (Code.cond c x y).wp P (LR D (codeF (.cond c x y) P pr ih t h s) e s h w) a w
      have hr' : (condF x y ih t h s v).good := by rw [← h1']; exact hr
      rw [h1']
      clear h1 h1' hr
      unfold condF at hr' ⊢
      have hr := hr'
      clear hr'
      split at hr
      · cases hv
        exact wp_cond_true hc (hih.wp x t h s hr D e a w ha hs hf)
      · cases hv
        exact wp_cond_false hc (hih.wp y t h s hr D e a w ha hs hf)
      · cases hr
    | block id c =>
      change (cBlock id c P pr ih t h s).good at hr
      show (Code.block id c).wp P (LR D (cBlock id c P pr ih t h s) e s h w) a w
      unfold cBlock at hr ⊢
      refine wp_block (wp_mono (hih.wp c t h s (RO.good_bnd hr) D e a w ha hs hf) (fun x1 a1 w1 hq => ?_))
      obtain ⟨l, g1, g2, g3⟩ := hq.leaf
      have hsub := g1.bnd .norm (fun i t h s => bif Nat.beq i id then .norm t h s else .exit i t h s) .ret
      cases l with
      | norm t' h' s' =>
        obtain ⟨rfl, hq'⟩ := g3
        exact LR.sub hsub ⟨rfl, hq'⟩
      | ret t' h' s' =>
        obtain ⟨rfl, hq'⟩ := g3
        exact LR.sub hsub ⟨rfl, hq'⟩
      | exit i t' h' s' =>
        obtain ⟨rfl, hq'⟩ := g3
        unfold Exit.inBlock
        dsimp only
        change Sub (bif Nat.beq i id then .norm t' h' s' else .exit i t' h' s') _ at hsub
        rw [beq_eq] at hsub
        by_cases hi : i = id
        · rw [if_pos hi]
          simp only [hi, decide_true, cond_true] at hsub
          exact LR.sub hsub ⟨rfl, hq'⟩
        · rw [if_neg hi]
          simp only [hi, decide_false, cond_false] at hsub
          exact LR.sub hsub ⟨rfl, hq'⟩
      | err n => exact g3.elim
      | or _ _ => exact g2.elim
    | loop c =>
      intro b k cs
      obtain ⟨x, a', w', hq, harr⟩ := loop_arrives (pr := pr) (P := P) hih (c := c) hr ha hs hf b k cs
      exact ⟨x, a', w', hq, .of_steps (.one step_loop) harr⟩
    | exit id => exact wp_exit ⟨rfl, e, ha, Post.refl hs hf⟩
    | ret => exact wp_ret ⟨rfl, e, ha, Post.refl hs hf⟩
    | rangeFunc _ _ _ _ => cases hr
    | scope _ => cases hr
    | goto _ => cases hr
    | refuse _ => cases hr
/-- The evaluator is sound. -/
theorem run_sound (hm : P.follows .mixedOrders = true) (hpr : SoundPr P pr) : ∀ n, SoundRn P (run P pr n)
  | 0 => ⟨fun _ _ _ _ hr => hr.elim, fun _ _ _ _ hr => hr.elim⟩
  | n + 1 => step_sound hm (run_sound hm hpr n) hpr
end Go.Ev
