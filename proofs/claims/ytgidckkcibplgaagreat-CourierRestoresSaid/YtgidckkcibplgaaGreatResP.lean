/- The law CourierRestores. -/
import Derived.Test.YtgidckkcibplgaaGreatResR
import Derived.Test.YtgidckkcibplgaaGreatResN
import Derived.Test.YtgidckkcibplgaaGreatCnlA
set_option linter.unusedVariables false
set_option linter.unusedSimpArgs false
namespace Go.Proofs.YtgidckkcibplgaaGreat
open Go.RowKit Go.Proofs.Num
theorem share2 {G : Nat → Array Value → World → Prop} {goal : Prop} (S : World → Prop) (main : (∀ g cs z, S z → G g cs z) → goal) (key : ∀ g cs z, S z → G g cs z) : goal := main key
set_option maxRecDepth 100000 in
theorem eff_alloc29 {L : Prop} {o : Oper} {a : Act} {D : WP} {K : Act → WP → WP → Prop} {W y : World} {l : List HProp} (hl : ∀ B ∈ l, Stable B) (hS : Sts W l y) (ho : o.op = .alloc 40) (hD : ∀ z, Sts W l z → D z)
    (hk : ∀ g, K (a.put o.dst (.pointer (some ⟨g, 0, none⟩))) D (fun z => Sts W (blkP g (.cells zero29 40 (0, 0)) :: l) z)) : effUpon Tryz.prog L o.dst a D K ((execOp a.eval o).run Tryz.prog y) := by
  have h := hS.alloc hl (.cells zero29 40)
  refine eff_value (w := y.alloc (.cells zero29 40)) (v := .pointer (some ⟨y.heap.size, 0, none⟩)) D _ ?_ h (fun z hz => hD z hz.tail) (fun _ h => h) (hk _)
  unfold execOp
  simp only [ho]
  kernel_rfl
theorem eff_agg29 {L : Prop} {o : Oper} {a : Act} {K : Act → WP → WP → Prop} {W y : World} {l : List HProp} {b : Nat} {c : Array Value} {t0 : TypeId}
    (hS : Sts W (blkP b (.cells c t0 (0, 0)) :: l) y) (hl : ∀ B ∈ l, Stable B) (p v : Operand) (t : TypeId) (ho : o.op = .store t p v) (vs : Array Value)
    (hp : a.eval p = .pointer (some ⟨b, 0, none⟩)) (hv : a.eval v = .agg vs) (hz : ∀ w, (Go.sizeOf t).run Tryz.prog w = .ok vs.size w) (hc : c.size = vs.size) (h1 : vs.toList.all (fun v => v.oneCell') = true) (D : WP)
    (hD : ∀ z, Sts W (blkP b (.cells vs t0 (0, 0)) :: l) z → D z)
    (hk : K (a.put o.dst undef) D (fun z => Sts W (blkP b (.cells vs t0 (0, 0)) :: l) z)) : effUpon Tryz.prog L o.dst a D K ((execOp a.eval o).run Tryz.prog y) := by
  obtain ⟨w', hr, hf⟩ := exec_aggS (o := o) (a := a) hS hl p v t ho vs hp hv hz hc h1
  exact eff_skip D _ (w := w') hr hf hD (fun _ h => h) hk
theorem Sts.nil_belowF {W w : World} (h : Below W.heap.size W w) : Sts W [] w := ⟨fun _ => False, fun _ h => h, h, fun _ h => h.elim⟩
section
variable {w : World} {self chunk to re next : Int} {l : List Rng.R}
set_option maxRecDepth 100000 in
set_option maxHeartbeats 16000000 in
theorem cRestoresBad (a : Option Addr) (cap : Nat) (h : RdR w (.slice a l.length cap) l) (hn : l.length ≤ 300) (hb : ¬ AllOk self chunk to re l next) : Calls Tryz.prog 3 #[.int .i64 self, .agg #[.int .i64 chunk, .int .i64 to, .int .i64 re], .slice a l.length cap, .int .i64 next] w fun e w' => e = .returned (.bool true) ∧ Below w.heap.size w w' := by
  have d1 : decide ((300 : Int) < (l.length : Int)) = false := decide_eq_false (by omega)
  have HN := hid hb
  have HR := hid h
  have HNN := hid (show l.length < 1000000 by omega)
  have HS := hid ((Sts.nil w).alloc stab0 (.cells #[.int .i64 chunk, .int .i64 to, .int .i64 re] 23))
  clear hb h hn
  go_enter Tryz.func3, Tryz.ntmps3
  go_wp2_with fail
  have HW := hid ((Below.refl w.heap.size w).alloc (Nat.le_refl _) (.cells #[.int .i64 chunk, .int .i64 to, .int .i64 re] 23))
  obtain ⟨w1, hw1⟩ : ∃ w1, w1 = w.alloc (.cells #[.int .i64 chunk, .int .i64 to, .int .i64 re] 23) := ⟨_, rfl⟩
  rw [← hw1] at HS HW ⊢
  clear hw1
  have HD : Hid (∀ y, Below w1.heap.size w1 y → (loadVar 23 ⟨w.heap.size, 0, none⟩).run Tryz.prog y = .ok (.agg #[.int .i64 chunk, .int .i64 to, .int .i64 re]) y) := hid fun y hy => ldCfg (HS.out.quiet (stab1 (blkP_stable _ _)) hy)
  refine wp_region_ord (.pure 0 (.pure 2 (.pure 3 (.pure 4 (.eff 1 (.eff 5 (.pure 6 (.pure 7 (.pure 8 (.pure 9 (.pure 10 .nil))))))))))) (fun y => (loadVar 23 ⟨w.heap.size, 0, none⟩).run Tryz.prog y = .ok (.agg #[.int .i64 chunk, .int .i64 to, .int .i64 re]) y) (fun y => Below w1.heap.size w1 y) (by kernel_rfl) (by kernel_rfl) (below_drewN (Below.refl _ _) 1) HD.out ?_
  apply ord_pure (ho := rfl)
  · go_simp
  · intro x hx; go_simp; rfl
  apply ord_norm
  · go_simp; rfl
  apply ord_pure (ho := rfl)
  · go_simp
  · exact fun x hx => exec_ldS (.tmp 5) 23 rfl rfl hx
  apply ord_norm
  · go_simp; rfl
  iterate 2
    (apply ord_pure (ho := rfl)
     · go_simp
     · intro x hx; go_simp; rfl
     apply ord_norm
     · go_simp; rfl)
  apply ord_eff (ho := rfl)
  · go_simp
  intro y hy
  refine eff_call (f := 11) (by go_simp) (cFilNew (l := []) stab0 (Sts.nil y) 1 1 (by omega) (by omega)) ?_
  rintro e w3 ⟨q, m, rfl, h3⟩
  refine ⟨_, rfl, (fun y => (loadVar 23 ⟨w.heap.size, 0, none⟩).run Tryz.prog y = .ok (.agg #[.int .i64 chunk, .int .i64 to, .int .i64 re]) y), (fun z => Below w1.heap.size w1 z ∧ Sts y (blkP q (.cells #[.int .i64 1, .int .i64 1, .map (some m)] 74 (0, 0)) :: blkP m (.map #[] 0) :: []) z), ⟨hy.trans (h3.below.mono hy.size), h3⟩, (fun z hz => HD.out z hz.1), (fun _ h => h), ?_⟩
  have HY := hid hy
  clear h3 hy
  apply ord_norm
  · go_simp; rfl
  apply ord_eff (ho := rfl)
  · go_simp
  intro z hz
  refine eff_call (f := 10) (by go_simp) (cRestAll a cap l ((HR.out.below HW.out).below HY.out) HNN.out self chunk to re next q m hz.2) ?_
  rintro e w4 ⟨hb4, h4⟩
  obtain ⟨rfl, _⟩ : _ ∧ _ := h4.resolve_right (by rintro ⟨c, q2, m1, m2, m3, _, hall, _⟩; exact HN.out hall)
  clear h4
  refine ⟨_, rfl, (fun y => (loadVar 23 ⟨w.heap.size, 0, none⟩).run Tryz.prog y = .ok (.agg #[.int .i64 chunk, .int .i64 to, .int .i64 re]) y), (fun z => Below w1.heap.size w1 z), HY.out.trans (hb4.mono HY.out.size), HD.out, (fun _ h => h), ?_⟩
  clear hb4 hz HY z y
  apply ord_norm
  · go_simp; rfl
  iterate 5
    (apply ord_pure (ho := rfl)
     · go_simp
     · intro x hx; go_simp; rfl
     apply ord_norm
     · go_simp; rfl)
  refine ord_nil fun z hz => ?_
  have HZ := hid hz
  clear hz
  go_wp2_with fail
  apply share2 (fun z => Below w1.heap.size w1 z)
  · intro key
    refine wp_region_ord (.pure 0 (.pure 2 (.pure 3 (.pure 4 (.eff2 1 9 (.eff2 5 9 (.pure 6 (.pure 7 (.pure 8 (.eff 9 (.eff 10 (.pure 11 .nil)))))) (.eff 5 (.pure 6 (.pure 7 (.pure 8 (.eff 10 (.pure 11 .nil))))))) (.eff 1 (.eff 5 (.pure 6 (.pure 7 (.pure 8 (.eff 10 (.pure 11 .nil)))))))))))) (fun y => (loadVar 23 ⟨w.heap.size, 0, none⟩).run Tryz.prog y = .ok (.agg #[.int .i64 chunk, .int .i64 to, .int .i64 re]) y) (fun y => Sts w1 [] y) (by kernel_rfl) (by kernel_rfl) (Sts.nil_belowF (below_drewN HZ.out 1)) (fun y hy => HD.out y hy.below) ?_
    apply ord_pure (ho := rfl)
    · go_simp
    · intro x hx; go_simp; rfl
    apply ord_norm
    · go_simp; rfl
    apply ord_pure (ho := rfl)
    · go_simp
    · exact fun x hx => exec_ldS (.tmp 5) 23 rfl rfl hx
    apply ord_norm
    · go_simp; rfl
    apply ord_pure (ho := rfl)
    · go_simp
    · intro x hx; go_simp; rfl
    apply ord_norm
    · go_simp; rfl
    apply ord_pure (ho := rfl)
    · go_simp
    · intro x hx; go_simp; rfl
    apply ord_norm
    · go_simp; rfl
    refine ord_eff2 ?_ ?_
    · apply ord_eff (ho := rfl)
      · go_simp
      intro y hy
      refine eff_call (f := 13) (by go_simp) (cRFil26 y) ?_
      rintro e w3 ⟨rfl, hb3⟩
      refine ⟨_, rfl, (fun y => (loadVar 23 ⟨w.heap.size, 0, none⟩).run Tryz.prog y = .ok (.agg #[.int .i64 chunk, .int .i64 to, .int .i64 re]) y), (fun z => Sts w1 [] z), hy.quiet stab0 hb3, (fun z hz => HD.out z hz.below), (fun _ h => h), ?_⟩
      clear hb3 hy y
      apply ord_norm
      · go_simp; rfl
      refine ord_eff2 ?_ ?_
      · apply ord_eff (ho := rfl)
        · go_simp
        intro y hy
        refine eff_call (f := 12) (by go_simp) (cRRestAll y a cap l ((HR.out.below HW.out).below hy.below) HNN.out self chunk to re next) ?_
        rintro e w3 ⟨hb3, cs, hcs1, hcs2, hcs3⟩
        have HC1 := hid hcs1
        have HC2 := hid hcs2
        obtain ⟨rfl, _⟩ : _ ∧ _ := hcs3.resolve_right (fun hh => HN.out hh.2)
        refine ⟨_, rfl, (fun y => (loadVar 23 ⟨w.heap.size, 0, none⟩).run Tryz.prog y = .ok (.agg #[.int .i64 chunk, .int .i64 to, .int .i64 re]) y), (fun z => Sts w1 [] z), hy.quiet stab0 hb3, (fun z hz => HD.out z hz.below), (fun _ h => h), ?_⟩
        clear hb3 hy y hcs1 hcs2
        apply ord_norm
        · go_simp; rfl
        apply ord_pure (ho := rfl)
        · go_simp
        · intro x hx; go_simp; rfl
        apply ord_norm
        · go_simp; rfl
        apply ord_pure (ho := rfl)
        · go_simp
        · intro x hx; go_simp; rfl
        apply ord_norm
        · go_simp; rfl
        apply ord_pure (ho := rfl)
        · go_simp
        · intro x hx; go_simp; rfl
        apply ord_norm
        · go_simp; rfl
        apply ord_eff (ho := rfl)
        · go_simp
        intro y hy
        refine eff_alloc29 stab0 hy rfl (fun z hz => HD.out z hz.below) ?_
        intro g
        clear hy y
        apply ord_norm
        · go_simp; rfl
        apply ord_eff (ho := rfl)
        · go_simp
        intro y hy
        refine eff_agg29 hy stab0 (.tmp 11) (.tmp 34) 40 rfl cs rfl rfl (by rw [HC1.out]; exact sizeC29) (by rw [HC1.out]; rfl) HC2.out (fun y => (loadVar 23 ⟨w.heap.size, 0, none⟩).run Tryz.prog y = .ok (.agg #[.int .i64 chunk, .int .i64 to, .int .i64 re]) y) (fun z hz => HD.out z hz.below) ?_
        clear hy y
        apply ord_norm
        · go_simp; rfl
        apply ord_pure (ho := rfl)
        · go_simp
        · intro x hx; go_simp; rfl
        apply ord_norm
        · go_simp; rfl
        refine ord_nil fun z hz => ?_
        exact key g cs z hz.below
      · apply ord_eff (ho := rfl)
        · go_simp
        intro y hy
        refine eff_alloc29 stab0 hy rfl (fun z hz => HD.out z hz.below) ?_
        intro g
        clear hy y
        apply ord_norm
        · go_simp; rfl
        apply ord_eff (ho := rfl)
        · go_simp
        intro y hy
        refine eff_call (f := 12) (by go_simp) (cRRestAll y a cap l ((HR.out.below HW.out).below hy.below) HNN.out self chunk to re next) ?_
        rintro e w3 ⟨hb3, cs, hcs1, hcs2, hcs3⟩
        have HC1 := hid hcs1
        have HC2 := hid hcs2
        obtain ⟨rfl, _⟩ : _ ∧ _ := hcs3.resolve_right (fun hh => HN.out hh.2)
        refine ⟨_, rfl, (fun y => (loadVar 23 ⟨w.heap.size, 0, none⟩).run Tryz.prog y = .ok (.agg #[.int .i64 chunk, .int .i64 to, .int .i64 re]) y), (fun z => Sts w1 [blkP g (.cells zero29 40 (0, 0))] z), hy.quiet (stab1 (blkP_stable _ _)) hb3, (fun z hz => HD.out z hz.below), (fun _ h => h), ?_⟩
        clear hb3 hy y hcs1 hcs2
        apply ord_norm
        · go_simp; rfl
        apply ord_pure (ho := rfl)
        · go_simp
        · intro x hx; go_simp; rfl
        apply ord_norm
        · go_simp; rfl
        apply ord_pure (ho := rfl)
        · go_simp
        · intro x hx; go_simp; rfl
        apply ord_norm
        · go_simp; rfl
        apply ord_pure (ho := rfl)
        · go_simp
        · intro x hx; go_simp; rfl
        apply ord_norm
        · go_simp; rfl
        apply ord_eff (ho := rfl)
        · go_simp
        intro y hy
        refine eff_agg29 hy stab0 (.tmp 11) (.tmp 34) 40 rfl cs rfl rfl (by rw [HC1.out]; exact sizeC29) (by rw [HC1.out]; rfl) HC2.out (fun y => (loadVar 23 ⟨w.heap.size, 0, none⟩).run Tryz.prog y = .ok (.agg #[.int .i64 chunk, .int .i64 to, .int .i64 re]) y) (fun z hz => HD.out z hz.below) ?_
        clear hy y
        apply ord_norm
        · go_simp; rfl
        apply ord_pure (ho := rfl)
        · go_simp
        · intro x hx; go_simp; rfl
        apply ord_norm
        · go_simp; rfl
        refine ord_nil fun z hz => ?_
        exact key g cs z hz.below
    · apply ord_eff (ho := rfl)
      · go_simp
      intro y hy
      refine eff_alloc29 stab0 hy rfl (fun z hz => HD.out z hz.below) ?_
      intro g
      clear hy y
      apply ord_norm
      · go_simp; rfl
      apply ord_eff (ho := rfl)
      · go_simp
      intro y hy
      refine eff_call (f := 13) (by go_simp) (cRFil26 y) ?_
      rintro e w3 ⟨rfl, hb3⟩
      refine ⟨_, rfl, (fun y => (loadVar 23 ⟨w.heap.size, 0, none⟩).run Tryz.prog y = .ok (.agg #[.int .i64 chunk, .int .i64 to, .int .i64 re]) y), (fun z => Sts w1 [blkP g (.cells zero29 40 (0, 0))] z), hy.quiet (stab1 (blkP_stable _ _)) hb3, (fun z hz => HD.out z hz.below), (fun _ h => h), ?_⟩
      clear hb3 hy y
      apply ord_norm
      · go_simp; rfl
      apply ord_eff (ho := rfl)
      · go_simp
      intro y hy
      refine eff_call (f := 12) (by go_simp) (cRRestAll y a cap l ((HR.out.below HW.out).below hy.below) HNN.out self chunk to re next) ?_
      rintro e w3 ⟨hb3, cs, hcs1, hcs2, hcs3⟩
      have HC1 := hid hcs1
      have HC2 := hid hcs2
      obtain ⟨rfl, _⟩ : _ ∧ _ := hcs3.resolve_right (fun hh => HN.out hh.2)
      refine ⟨_, rfl, (fun y => (loadVar 23 ⟨w.heap.size, 0, none⟩).run Tryz.prog y = .ok (.agg #[.int .i64 chunk, .int .i64 to, .int .i64 re]) y), (fun z => Sts w1 [blkP g (.cells zero29 40 (0, 0))] z), hy.quiet (stab1 (blkP_stable _ _)) hb3, (fun z hz => HD.out z hz.below), (fun _ h => h), ?_⟩
      clear hb3 hy y hcs1 hcs2
      apply ord_norm
      · go_simp; rfl
      apply ord_pure (ho := rfl)
      · go_simp
      · intro x hx; go_simp; rfl
      apply ord_norm
      · go_simp; rfl
      apply ord_pure (ho := rfl)
      · go_simp
      · intro x hx; go_simp; rfl
      apply ord_norm
      · go_simp; rfl
      apply ord_pure (ho := rfl)
      · go_simp
      · intro x hx; go_simp; rfl
      apply ord_norm
      · go_simp; rfl
      apply ord_eff (ho := rfl)
      · go_simp
      intro y hy
      refine eff_agg29 hy stab0 (.tmp 11) (.tmp 34) 40 rfl cs rfl rfl (by rw [HC1.out]; exact sizeC29) (by rw [HC1.out]; rfl) HC2.out (fun y => (loadVar 23 ⟨w.heap.size, 0, none⟩).run Tryz.prog y = .ok (.agg #[.int .i64 chunk, .int .i64 to, .int .i64 re]) y) (fun z hz => HD.out z hz.below) ?_
      clear hy y
      apply ord_norm
      · go_simp; rfl
      apply ord_pure (ho := rfl)
      · go_simp
      · intro x hx; go_simp; rfl
      apply ord_norm
      · go_simp; rfl
      refine ord_nil fun z hz => ?_
      exact key g cs z hz.below
  · intro g cs z hz
    have HE := hid hz
    clear hz
    go_wp2_with (first | (go_at_call 9; refine (cAlive29 z).mono ?_; rintro e w5 ⟨rfl, hb5⟩; have HF := hid (HW.out.trans ((HE.out.trans (hb5.mono HE.out.size)).mono HW.out.size)); clear hb5))
    go_ret
    exact ⟨rfl, HF.out⟩
set_option maxRecDepth 100000 in
set_option maxHeartbeats 16000000 in
theorem cRestoresGood (a : Option Addr) (cap : Nat) (h : RdR w (.slice a l.length cap) l) (hn : l.length ≤ 300) (hb : AllOk self chunk to re l next) : Calls Tryz.prog 3 #[.int .i64 self, .agg #[.int .i64 chunk, .int .i64 to, .int .i64 re], .slice a l.length cap, .int .i64 next] w fun e w' => e = .returned (.bool true) ∧ Below w.heap.size w w' := by
  have d1 : decide ((300 : Int) < (l.length : Int)) = false := decide_eq_false (by omega)
  have HN := hid hb
  have HR := hid h
  have HNN := hid (show l.length < 1000000 by omega)
  have HS := hid ((Sts.nil w).alloc stab0 (.cells #[.int .i64 chunk, .int .i64 to, .int .i64 re] 23))
  clear hb h hn
  go_enter Tryz.func3, Tryz.ntmps3
  go_wp2_with fail
  have HW := hid ((Below.refl w.heap.size w).alloc (Nat.le_refl _) (.cells #[.int .i64 chunk, .int .i64 to, .int .i64 re] 23))
  obtain ⟨w1, hw1⟩ : ∃ w1, w1 = w.alloc (.cells #[.int .i64 chunk, .int .i64 to, .int .i64 re] 23) := ⟨_, rfl⟩
  rw [← hw1] at HS HW ⊢
  clear hw1
  have HD : Hid (∀ y, Below w1.heap.size w1 y → (loadVar 23 ⟨w.heap.size, 0, none⟩).run Tryz.prog y = .ok (.agg #[.int .i64 chunk, .int .i64 to, .int .i64 re]) y) := hid fun y hy => ldCfg (HS.out.quiet (stab1 (blkP_stable _ _)) hy)
  refine wp_region_ord (.pure 0 (.pure 2 (.pure 3 (.pure 4 (.eff 1 (.eff 5 (.pure 6 (.pure 7 (.pure 8 (.pure 9 (.pure 10 .nil))))))))))) (fun y => (loadVar 23 ⟨w.heap.size, 0, none⟩).run Tryz.prog y = .ok (.agg #[.int .i64 chunk, .int .i64 to, .int .i64 re]) y) (fun y => Below w1.heap.size w1 y) (by kernel_rfl) (by kernel_rfl) (below_drewN (Below.refl _ _) 1) HD.out ?_
  apply ord_pure (ho := rfl)
  · go_simp
  · intro x hx; go_simp; rfl
  apply ord_norm
  · go_simp; rfl
  apply ord_pure (ho := rfl)
  · go_simp
  · exact fun x hx => exec_ldS (.tmp 5) 23 rfl rfl hx
  apply ord_norm
  · go_simp; rfl
  iterate 2
    (apply ord_pure (ho := rfl)
     · go_simp
     · intro x hx; go_simp; rfl
     apply ord_norm
     · go_simp; rfl)
  apply ord_eff (ho := rfl)
  · go_simp
  intro y hy
  refine eff_call (f := 11) (by go_simp) (cFilNew (l := []) stab0 (Sts.nil y) 1 1 (by omega) (by omega)) ?_
  rintro e w3 ⟨q, m, rfl, h3⟩
  refine ⟨_, rfl, (fun y => (loadVar 23 ⟨w.heap.size, 0, none⟩).run Tryz.prog y = .ok (.agg #[.int .i64 chunk, .int .i64 to, .int .i64 re]) y), (fun z => Below w1.heap.size w1 z ∧ Sts y (blkP q (.cells #[.int .i64 1, .int .i64 1, .map (some m)] 74 (0, 0)) :: blkP m (.map #[] 0) :: []) z), ⟨hy.trans (h3.below.mono hy.size), h3⟩, (fun z hz => HD.out z hz.1), (fun _ h => h), ?_⟩
  have HY := hid hy
  clear h3 hy
  apply ord_norm
  · go_simp; rfl
  apply ord_eff (ho := rfl)
  · go_simp
  intro z hz
  refine eff_call (f := 10) (by go_simp) (cRestAll a cap l ((HR.out.below HW.out).below HY.out) HNN.out self chunk to re next q m hz.2) ?_
  rintro e w4 ⟨hb4, h4⟩
  have HC : Hid (∃ c q m1 m2 m3, e = .returned (.tuple #[.pointer (some ⟨c, 0, none⟩), .int .i64 0]) ∧ CouAt w4 self chunk to re next c q m1 m2 m3 l) := hid (by
    rcases h4 with ⟨_, hno⟩ | ⟨c, q2, m1, m2, m3, h1, _, h2⟩
    · exact absurd HN.out hno
    · exact ⟨c, q2, m1, m2, m3, h1, h2⟩)
  obtain ⟨c, q2, m1, m2, m3, rfl, hca⟩ := HC.out
  have HCA := hid hca
  clear h4 hca HC
  have HW4 := hid ((HW.out.trans ((HY.out.trans (hb4.mono HY.out.size)).mono HW.out.size)))
  have HD4 : Hid (∀ y, Below w4.heap.size w4 y → (loadVar 23 ⟨w.heap.size, 0, none⟩).run Tryz.prog y = .ok (.agg #[.int .i64 chunk, .int .i64 to, .int .i64 re]) y) := hid fun y hy => HD.out y ((HY.out.trans (hb4.mono HY.out.size)).trans (hy.mono (HY.out.trans (hb4.mono HY.out.size)).size))
  refine ⟨_, rfl, (fun y => (loadVar 23 ⟨w.heap.size, 0, none⟩).run Tryz.prog y = .ok (.agg #[.int .i64 chunk, .int .i64 to, .int .i64 re]) y), (fun z => Below w4.heap.size w4 z), Below.refl _ _, HD4.out, (fun _ h => h), ?_⟩
  clear hb4 hz HY HD z y
  apply ord_norm
  · go_simp; rfl
  iterate 5
    (apply ord_pure (ho := rfl)
     · go_simp
     · intro x hx; go_simp; rfl
     apply ord_norm
     · go_simp; rfl)
  refine ord_nil fun z hz => ?_
  have HZ := hid hz
  clear hz
  go_wp2_with fail
  have HD := HD4
  clear HD4
  apply share2 (fun z => Below w4.heap.size w4 z)
  · intro key
    refine wp_region_ord (.pure 0 (.pure 2 (.pure 3 (.pure 4 (.eff2 1 9 (.eff2 5 9 (.pure 6 (.pure 7 (.pure 8 (.eff 9 (.eff 10 (.pure 11 .nil)))))) (.eff 5 (.pure 6 (.pure 7 (.pure 8 (.eff 10 (.pure 11 .nil))))))) (.eff 1 (.eff 5 (.pure 6 (.pure 7 (.pure 8 (.eff 10 (.pure 11 .nil)))))))))))) (fun y => (loadVar 23 ⟨w.heap.size, 0, none⟩).run Tryz.prog y = .ok (.agg #[.int .i64 chunk, .int .i64 to, .int .i64 re]) y) (fun y => Sts w4 [] y) (by kernel_rfl) (by kernel_rfl) (Sts.nil_belowF (below_drewN HZ.out 1)) (fun y hy => HD.out y hy.below) ?_
    apply ord_pure (ho := rfl)
    · go_simp
    · intro x hx; go_simp; rfl
    apply ord_norm
    · go_simp; rfl
    apply ord_pure (ho := rfl)
    · go_simp
    · exact fun x hx => exec_ldS (.tmp 5) 23 rfl rfl hx
    apply ord_norm
    · go_simp; rfl
    apply ord_pure (ho := rfl)
    · go_simp
    · intro x hx; go_simp; rfl
    apply ord_norm
    · go_simp; rfl
    apply ord_pure (ho := rfl)
    · go_simp
    · intro x hx; go_simp; rfl
    apply ord_norm
    · go_simp; rfl
    refine ord_eff2 ?_ ?_
    · apply ord_eff (ho := rfl)
      · go_simp
      intro y hy
      refine eff_call (f := 13) (by go_simp) (cRFil26 y) ?_
      rintro e w3 ⟨rfl, hb3⟩
      refine ⟨_, rfl, (fun y => (loadVar 23 ⟨w.heap.size, 0, none⟩).run Tryz.prog y = .ok (.agg #[.int .i64 chunk, .int .i64 to, .int .i64 re]) y), (fun z => Sts w4 [] z), hy.quiet stab0 hb3, (fun z hz => HD.out z hz.below), (fun _ h => h), ?_⟩
      clear hb3 hy y
      apply ord_norm
      · go_simp; rfl
      refine ord_eff2 ?_ ?_
      · apply ord_eff (ho := rfl)
        · go_simp
        intro y hy
        refine eff_call (f := 12) (by go_simp) (cRRestAll y a cap l ((HR.out.below HW4.out).below hy.below) HNN.out self chunk to re next) ?_
        rintro e w3 ⟨hb3, cs, hcs1, hcs2, hcs3⟩
        have HC1 := hid hcs1
        have HC2 := hid hcs2
        obtain ⟨rfl, _⟩ : _ ∧ _ := hcs3.resolve_left (fun hh => hh.2 HN.out)
        refine ⟨_, rfl, (fun y => (loadVar 23 ⟨w.heap.size, 0, none⟩).run Tryz.prog y = .ok (.agg #[.int .i64 chunk, .int .i64 to, .int .i64 re]) y), (fun z => Sts w4 [] z), hy.quiet stab0 hb3, (fun z hz => HD.out z hz.below), (fun _ h => h), ?_⟩
        clear hb3 hy y hcs1 hcs2
        apply ord_norm
        · go_simp; rfl
        apply ord_pure (ho := rfl)
        · go_simp
        · intro x hx; go_simp; rfl
        apply ord_norm
        · go_simp; rfl
        apply ord_pure (ho := rfl)
        · go_simp
        · intro x hx; go_simp; rfl
        apply ord_norm
        · go_simp; rfl
        apply ord_pure (ho := rfl)
        · go_simp
        · intro x hx; go_simp; rfl
        apply ord_norm
        · go_simp; rfl
        apply ord_eff (ho := rfl)
        · go_simp
        intro y hy
        refine eff_alloc29 stab0 hy rfl (fun z hz => HD.out z hz.below) ?_
        intro g
        clear hy y
        apply ord_norm
        · go_simp; rfl
        apply ord_eff (ho := rfl)
        · go_simp
        intro y hy
        refine eff_agg29 hy stab0 (.tmp 11) (.tmp 34) 40 rfl cs rfl rfl (by rw [HC1.out]; exact sizeC29) (by rw [HC1.out]; rfl) HC2.out (fun y => (loadVar 23 ⟨w.heap.size, 0, none⟩).run Tryz.prog y = .ok (.agg #[.int .i64 chunk, .int .i64 to, .int .i64 re]) y) (fun z hz => HD.out z hz.below) ?_
        clear hy y
        apply ord_norm
        · go_simp; rfl
        apply ord_pure (ho := rfl)
        · go_simp
        · intro x hx; go_simp; rfl
        apply ord_norm
        · go_simp; rfl
        refine ord_nil fun z hz => ?_
        exact key g cs z hz.below
      · apply ord_eff (ho := rfl)
        · go_simp
        intro y hy
        refine eff_alloc29 stab0 hy rfl (fun z hz => HD.out z hz.below) ?_
        intro g
        clear hy y
        apply ord_norm
        · go_simp; rfl
        apply ord_eff (ho := rfl)
        · go_simp
        intro y hy
        refine eff_call (f := 12) (by go_simp) (cRRestAll y a cap l ((HR.out.below HW4.out).below hy.below) HNN.out self chunk to re next) ?_
        rintro e w3 ⟨hb3, cs, hcs1, hcs2, hcs3⟩
        have HC1 := hid hcs1
        have HC2 := hid hcs2
        obtain ⟨rfl, _⟩ : _ ∧ _ := hcs3.resolve_left (fun hh => hh.2 HN.out)
        refine ⟨_, rfl, (fun y => (loadVar 23 ⟨w.heap.size, 0, none⟩).run Tryz.prog y = .ok (.agg #[.int .i64 chunk, .int .i64 to, .int .i64 re]) y), (fun z => Sts w4 [blkP g (.cells zero29 40 (0, 0))] z), hy.quiet (stab1 (blkP_stable _ _)) hb3, (fun z hz => HD.out z hz.below), (fun _ h => h), ?_⟩
        clear hb3 hy y hcs1 hcs2
        apply ord_norm
        · go_simp; rfl
        apply ord_pure (ho := rfl)
        · go_simp
        · intro x hx; go_simp; rfl
        apply ord_norm
        · go_simp; rfl
        apply ord_pure (ho := rfl)
        · go_simp
        · intro x hx; go_simp; rfl
        apply ord_norm
        · go_simp; rfl
        apply ord_pure (ho := rfl)
        · go_simp
        · intro x hx; go_simp; rfl
        apply ord_norm
        · go_simp; rfl
        apply ord_eff (ho := rfl)
        · go_simp
        intro y hy
        refine eff_agg29 hy stab0 (.tmp 11) (.tmp 34) 40 rfl cs rfl rfl (by rw [HC1.out]; exact sizeC29) (by rw [HC1.out]; rfl) HC2.out (fun y => (loadVar 23 ⟨w.heap.size, 0, none⟩).run Tryz.prog y = .ok (.agg #[.int .i64 chunk, .int .i64 to, .int .i64 re]) y) (fun z hz => HD.out z hz.below) ?_
        clear hy y
        apply ord_norm
        · go_simp; rfl
        apply ord_pure (ho := rfl)
        · go_simp
        · intro x hx; go_simp; rfl
        apply ord_norm
        · go_simp; rfl
        refine ord_nil fun z hz => ?_
        exact key g cs z hz.below
    · apply ord_eff (ho := rfl)
      · go_simp
      intro y hy
      refine eff_alloc29 stab0 hy rfl (fun z hz => HD.out z hz.below) ?_
      intro g
      clear hy y
      apply ord_norm
      · go_simp; rfl
      apply ord_eff (ho := rfl)
      · go_simp
      intro y hy
      refine eff_call (f := 13) (by go_simp) (cRFil26 y) ?_
      rintro e w3 ⟨rfl, hb3⟩
      refine ⟨_, rfl, (fun y => (loadVar 23 ⟨w.heap.size, 0, none⟩).run Tryz.prog y = .ok (.agg #[.int .i64 chunk, .int .i64 to, .int .i64 re]) y), (fun z => Sts w4 [blkP g (.cells zero29 40 (0, 0))] z), hy.quiet (stab1 (blkP_stable _ _)) hb3, (fun z hz => HD.out z hz.below), (fun _ h => h), ?_⟩
      clear hb3 hy y
      apply ord_norm
      · go_simp; rfl
      apply ord_eff (ho := rfl)
      · go_simp
      intro y hy
      refine eff_call (f := 12) (by go_simp) (cRRestAll y a cap l ((HR.out.below HW4.out).below hy.below) HNN.out self chunk to re next) ?_
      rintro e w3 ⟨hb3, cs, hcs1, hcs2, hcs3⟩
      have HC1 := hid hcs1
      have HC2 := hid hcs2
      obtain ⟨rfl, _⟩ : _ ∧ _ := hcs3.resolve_left (fun hh => hh.2 HN.out)
      refine ⟨_, rfl, (fun y => (loadVar 23 ⟨w.heap.size, 0, none⟩).run Tryz.prog y = .ok (.agg #[.int .i64 chunk, .int .i64 to, .int .i64 re]) y), (fun z => Sts w4 [blkP g (.cells zero29 40 (0, 0))] z), hy.quiet (stab1 (blkP_stable _ _)) hb3, (fun z hz => HD.out z hz.below), (fun _ h => h), ?_⟩
      clear hb3 hy y hcs1 hcs2
      apply ord_norm
      · go_simp; rfl
      apply ord_pure (ho := rfl)
      · go_simp
      · intro x hx; go_simp; rfl
      apply ord_norm
      · go_simp; rfl
      apply ord_pure (ho := rfl)
      · go_simp
      · intro x hx; go_simp; rfl
      apply ord_norm
      · go_simp; rfl
      apply ord_pure (ho := rfl)
      · go_simp
      · intro x hx; go_simp; rfl
      apply ord_norm
      · go_simp; rfl
      apply ord_eff (ho := rfl)
      · go_simp
      intro y hy
      refine eff_agg29 hy stab0 (.tmp 11) (.tmp 34) 40 rfl cs rfl rfl (by rw [HC1.out]; exact sizeC29) (by rw [HC1.out]; rfl) HC2.out (fun y => (loadVar 23 ⟨w.heap.size, 0, none⟩).run Tryz.prog y = .ok (.agg #[.int .i64 chunk, .int .i64 to, .int .i64 re]) y) (fun z hz => HD.out z hz.below) ?_
      clear hy y
      apply ord_norm
      · go_simp; rfl
      apply ord_pure (ho := rfl)
      · go_simp
      · intro x hx; go_simp; rfl
      apply ord_norm
      · go_simp; rfl
      refine ord_nil fun z hz => ?_
      exact key g cs z hz.below
  · intro g cs z hz
    have HE := hid hz
    clear hz
    go_wp2_with fail
    go_loopw [13] (fun i wr => ∃ k : Nat, k ≤ l.length ∧ i = .int .i64 k ∧ Below w4.heap.size w4 wr) (fun i _ => l.length - (intOf i).toNat)
    case atStart => exact ⟨0, by omega, rfl, HE.out⟩
    case round =>
      clear HE
      obtain ⟨k, hk, rfl, hbk⟩ := hrel
      have HB := hid hbk
      clear hbk
      have HRK := hid ((HR.out.below HW4.out).below HB.out)
      by_cases hlt : k < l.length
      · obtain ⟨a', cap', e', _, hx⟩ := HRK.out
        injection e' with e1 e2 e3
        subst e1 e3
        obtain ⟨b, off, rfl, hb, c0, c1⟩ := hx k hlt
        have HIN := hid (List.getElem_mem hlt)
        obtain ⟨x, hxe⟩ : ∃ x, x = l[k] := ⟨_, rfl⟩
        rw [← hxe] at c0 c1 HIN
        clear hx hb hxe e2
        obtain ⟨f, t⟩ := x
        simp only [] at c0 c1
        have hlk : k < 1000000 := by have := HNN.out; omega
        go_wp2_with (first | (go_at_call 14; refine (cCouStatus (HCA.out.below HB.out) HNN.out f t HIN.out).mono ?_; rintro e w5 ⟨rfl, hb5⟩; have HB5 := hid (HB.out.trans (hb5.mono HB.out.size)); clear hb5))
        go_roundw
        case rel => exact ⟨k + 1, by omega, by go_num, HB5.out⟩
        case measure => simp [intOf]; omega
      · obtain rfl : k = l.length := by omega
        go_wp2_with (first
          | (go_at_call 16; refine (cCouDelivered (HCA.out.below HB.out) HNN.out).mono ?_; rintro e w5 ⟨r, rfl, hb5, hrd⟩; have HQ := hid hrd; have HB5 := hid (HB.out.trans (hb5.mono HB.out.size)); have HR5 := hid (HRK.out.below hb5); clear hrd hb5)
          | (go_at_call 15; refine (cIdsF w5 _ _ l HQ.out HR5.out HNN.out).mono ?_; rintro e w6 ⟨hb6, rfl⟩; have HB6 := hid (HB5.out.trans (hb6.mono HB5.out.size)); clear hb6)
          | (go_at_call 17; refine (cCouNext (HCA.out.below HB6.out)).mono ?_; rintro e w7 ⟨rfl, rfl⟩)
          | (go_at_call 9; refine (cAlive29 w6).mono ?_; rintro e w8 ⟨rfl, hb8⟩; have HF := hid (HW4.out.trans ((HB6.out.trans (hb8.mono HB6.out.size)).mono HW4.out.size)); clear hb8))
        go_ret
        exact ⟨rfl, HF.out⟩
set_option maxRecDepth 100000 in
theorem cRestoresLong (a : Option Addr) (n cap : Nat) (hn : 300 < n) : Calls Tryz.prog 3 #[.int .i64 self, .agg #[.int .i64 chunk, .int .i64 to, .int .i64 re], .slice a n cap, .int .i64 next] w fun e w' => e = .returned (.bool true) ∧ Below w.heap.size w w' := by
  have d1 : decide ((300 : Int) < (n : Int)) = true := decide_eq_true (by omega)
  have HW := hid ((Below.refl w.heap.size w).alloc (Nat.le_refl _) (.cells #[.int .i64 chunk, .int .i64 to, .int .i64 re] 23))
  have hn' : (300 : Int) < (n : Int) := by omega
  clear hn
  go_enter Tryz.func3, Tryz.ntmps3
  go_wp2_with (first | (go_at_call 9; refine (cAlive29 _).mono ?_; rintro e w5 ⟨rfl, hb5⟩; have HF := hid (HW.out.trans (hb5.mono HW.out.size)); clear hb5))
  go_ret
  exact ⟨rfl, HF.out⟩
end
theorem cCourierRestores {w : World} (self chunk to re next : Int) (l : List Rng.R) (v : Value) (h : RdR w v l) : Calls Tryz.prog 3 #[.int .i64 self, .agg #[.int .i64 chunk, .int .i64 to, .int .i64 re], v, .int .i64 next] w fun e w' => e = .returned (.bool true) ∧ Below w.heap.size w w' := by
  obtain ⟨a, cap, rfl, _⟩ := id h
  by_cases hn : l.length ≤ 300
  · by_cases hb : AllOk self chunk to re l next
    · exact cRestoresGood a cap h hn hb
    · exact cRestoresBad a cap h hn hb
  · exact cRestoresLong a l.length cap (by omega)
end Go.Proofs.YtgidckkcibplgaaGreat
