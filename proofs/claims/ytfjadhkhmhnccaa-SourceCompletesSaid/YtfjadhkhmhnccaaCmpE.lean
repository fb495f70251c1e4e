/- SourceCompletes: the walk. -/
import Derived.Test.YtfjadhkhmhnccaaCmpA
import Derived.Test.YtfjadhkhmhnccaaCmpC
import Derived.Test.YtfjadhkhmhnccaaCmpF
import Derived.Test.YtfjadhkhmhnccaaSrcLivB
set_option linter.unusedVariables false
set_option linter.unusedSimpArgs false
namespace Fil
theorem ov_congr {α : Type} (l : List α) (f : Nat) {g g' : Nat → α} : ∀ n, (∀ i, i < n → g i = g' i) → ov l f g n = ov l f g' n
  | 0, _ => rfl
  | n + 1, h => by rw [ov, ov, ov_congr l f n (fun i hi => h i (by omega)), h n (by omega)]
theorem sub_getD (d : List Nat) (f m i : Nat) (h : i < m) : ((d.drop f).take m).getD i 0 = d.getD (f + i) 0 := by
  rw [List.getD_eq_getElem?_getD, List.getD_eq_getElem?_getD, List.getElem?_take_of_lt h, List.getElem?_drop]
theorem Good.of_next {s s' : Src} {u : U} {now : Int} (h : Good s) (he : s.nextV now = (s', u)) : Good s' := by
  have := h.nextV now; rw [he] at this; exact this
theorem goV_now (s : Src) : s.goV.1.now = s.now := by
  unfold Src.goV
  split
  · rfl
  split
  · rfl
  split
  · rfl
  split
  · rfl
  split
  · rfl
  split
  · rfl
  · split
    · unfold Src.fwdV Src.eofV
      split
      · rfl
      · split
        · rfl
        · split <;> rfl
    · unfold Src.repV
      split
      · rfl
      · split <;> rfl
theorem now_next {data : List Nat} {now : Nat} {s s' : Src} {r : Rcv} {u : U} (h : Cm data now s r) (hn : now ≤ 1500) (he : s.nextV now = (s', u)) : s'.now = now := by
  unfold Src.nextV at he
  rw [pass_eq h.nw hn] at he
  have := goV_now { s with now := (now : Int) }
  rw [he] at this
  exact this
theorem cm_of_ack {data : List Nat} {now : Nat} {s : Src} {r : Rcv} (h : Cm data now { s with now := (now : Int), acked := true } r) (hg : Good s) (hn : s.now = now) : Cm data now s r :=
  ⟨hg, h.src, h.num, h.cls, h.dat, h.to, h.re, h.susp, h.code, by omega, by have := h.tm; have h2 : s.timer ≤ (now : Int) := this; omega, h.hl, h.dl, h.hd⟩
theorem left_ack (D now : Nat) (s : Src) (h : s.phase = 1) : left D now { s with now := (now : Int), acked := true } ≤ left D now s := by
  have h1 : ¬ (1 : Int) = 0 := by decide
  unfold left
  show (if s.due = true then 1 else 0) + (if s.mreq = true then 1 else 0) + tot s.wanted + (if s.phase = 0 then (if s.started = true then 0 else 1) + (D - s.at'.toNat) + 1 else if s.phase = 1 ∧ true = false ∧ s.timer + 4 ≤ now then 1 else 0) ≤ _
  have h2 : ¬ ((1 : Int) = 1 ∧ true = false ∧ s.timer + 4 ≤ (now : Int)) := fun e => by cases e.2.1
  rw [h, if_neg h1, if_neg h1, if_neg h2]
  omega
theorem state_ne {s : Src} (h : s.susp = false) (h4 : s.phase ≠ 4) : s.stateV ≠ 4 := by
  unfold Src.stateV
  rw [if_neg (by rw [h]; decide)]
  by_cases h0 : s.phase = 0
  · rw [if_pos h0]; decide
  · rw [if_neg h0, if_neg h4]
    by_cases h5 : s.phase = 5
    · rw [if_pos h5]; decide
    · rw [if_neg h5]
      by_cases h6 : s.phase = 6
      · rw [if_pos h6]; decide
      · rw [if_neg h6]; decide
end Fil
namespace Go.Proofs.Ytfjadhkhmhnccaa
open Go.RowKit Go.Proofs.Num Go.ChangeShapes
theorem cTakeNakL {W w : World} {l : List HProp} (hl : ∀ B ∈ l, Stable B) (q : Nat) (s : Fil.Src) (ga : Option Addr) (gc : Nat) (L : List Rng.R) (hs : Sts W (srcP q s :: rowP 81 2 (.slice ga L.length gc) L.length (Fil.rcells L) :: l) w) (hG : Fil.Good s) (N : Int) (hL : L.length ≤ 16) :
    Calls Try.prog 25 #[.pointer (some ⟨q, 0, none⟩), .agg #[.int .i64 4, .int .i64 1, .int .i64 7, .int .i64 0, .string ⟨#[]⟩, .int .i64 0, .int .i64 0, .slice none 0 0, .int .u32 0, .int .i64 0, .slice ga L.length gc], .int .i64 N] w fun e w' => e = .returned (.int .i64 (s.takeV (Fil.nakP ga gc L) N).2) ∧ Sts W (srcP q (s.takeV (Fil.nakP ga gc L) N).1 :: rowP 81 2 (.slice ga L.length gc) L.length (Fil.rcells L) :: l) w' := by
  have h := cTake (stabC (rowP_stable _ _ _ _ _) hl) q s hs hG (Fil.nakP ga gc L) N (by show (0 : Nat) ≤ 1000000; omega) (by show (0 : Nat) < 1000000000; omega) (by show L.length < 1000; omega) (fun A y hy => show RdR y (.slice ga L.length gc) L from RdR.of_own (Sts.rowOwnK hy.tail) rfl)
  exact h
theorem newx_ok (n C : Nat) (hn : n ≤ 1500) (hC : 1 ≤ C ∧ C ≤ 512) : Fil.newB 1 7 2 ⟨#[120]⟩ n (C : Int) 4 255 = true := by
  have h1 : (Fil.headP 1 7 2 ⟨#[120]⟩ n).rest.emptyB = true := (show ({ kind := 1, src := 1, num := 7 } : Fil.Pdu).emptyB = true by decide +kernel)
  have h2 : (Fil.headP 1 7 2 ⟨#[120]⟩ n).kindB = (Fil.withinB 2 1 2 && Fil.withinB (n : Int) 0 65536 && Fil.nameB ⟨#[120]⟩) := rfl
  have h3 : Fil.nameB ⟨#[120]⟩ = true := by decide +kernel
  have h4 : Fil.withinB (n : Int) 0 65536 = true := by unfold Fil.withinB; rw [Bool.and_eq_true, decide_eq_true_eq, decide_eq_true_eq]; omega
  have h5 : Fil.withinB (C : Int) 1 512 = true := by unfold Fil.withinB; rw [Bool.and_eq_true, decide_eq_true_eq, decide_eq_true_eq]; omega
  unfold Fil.newB Fil.Pdu.validB
  rw [h1, h2, h3, h4, h5]
  rfl
section
variable (w : World) (da : Option Addr) (dc : Nat) (data : List Nat) (la : Option Addr) (lc : Nat) (loss : List Bool) (ch : Nat) (hd : RdB w (.slice da data.length dc) data) (hlo : BoolsAt w (.slice la loss.length lc) loss) (hch : ch < 65536)
set_option maxRecDepth 100000 in
set_option maxHeartbeats 4000000 in
theorem cmp_big (hb : 1500 < data.length ∨ 100 < loss.length) : Calls Try.prog 5 #[.slice da data.length dc, .int .u16 (ch : Int), .slice la loss.length lc] w fun e w' => e = .returned (.bool true) ∧ Below w.heap.size w w' := by
  generalize data.length = n at *
  generalize loss.length = m at *
  rcases Nat.lt_or_ge 1500 n with h | h
  · have d1 : decide (1500 < (n : Int)) = true := decide_eq_true (by omega)
    clear hb h
    go_enter Try.func5, Try.ntmps5
    go_wp2_with (first | (go_at_call 14; refine (cLives27 _).mono ?_; rintro e w2 ⟨rfl, hb2⟩; have H2 := hid hb2; clear hb2))
    go_ret
    exact ⟨rfl, H2.out⟩
  · have d1 : decide (1500 < (n : Int)) = false := decide_eq_false (by omega)
    have d2 : decide (100 < (m : Int)) = true := decide_eq_true (by omega)
    clear hb h
    go_enter Try.func5, Try.ntmps5
    go_wp2_with (first | (go_at_call 14; refine (cLives27 _).mono ?_; rintro e w2 ⟨rfl, hb2⟩; have H2 := hid hb2; clear hb2))
    go_ret
    exact ⟨rfl, H2.out⟩
include hd hlo hch
set_option maxRecDepth 100000 in
set_option maxHeartbeats 40000000 in
theorem cmp_main (hn5 : data.length ≤ 1500) (hm1 : loss.length ≤ 100) : Calls Try.prog 5 #[.slice da data.length dc, .int .u16 (ch : Int), .slice la loss.length lc] w fun e w' => e = .returned (.bool true) ∧ Below w.heap.size w w' := by
  obtain ⟨C, hC⟩ : ∃ C : Nat, C = 1 + ch % 512 := ⟨_, rfl⟩
  have HC := hid (show 1 ≤ C ∧ C ≤ 512 by omega)
  obtain ⟨n, hn⟩ : ∃ n, n = data.length := ⟨_, rfl⟩
  obtain ⟨m, hm⟩ : ∃ m, m = loss.length := ⟨_, rfl⟩
  have HNN := hid hn
  have HMM := hid hm
  have HD := hid (show RdB w (.slice da n dc) data by rw [hn]; exact hd)
  have HLO := hid (show BoolsAt w (.slice la m lc) loss by rw [hm]; exact hlo)
  rw [← hn] at hn5 ⊢
  rw [← hm] at hm1 ⊢
  have d1 : decide (1500 < (n : Int)) = false := decide_eq_false (by omega)
  have d2 : decide (100 < (m : Int)) = false := decide_eq_false (by omega)
  have hC' : (1 + (ch : Int) % 512) = (C : Int) := by omega
  have HNB := hid (show Fil.newB 1 7 2 ⟨#[120]⟩ data.length (C : Int) 4 255 = true from newx_ok data.length C (by omega) HC.out)
  clear hd hlo hn hm hC
  go_enter Try.func5, Try.ntmps5
  go_wp2_with (first | (go_at_call 22; refine (cIdC _).mono ?_; rintro e w1 ⟨rfl, hb⟩; have H1 := hid ((Sts.nil w).quiet stab0 hb); clear hb))
  refine (cNewOk stab0 1 7 2 ⟨#[120]⟩ (.slice da n dc) data (C : Int) 4 255 H1.out (RdsB.arg HD.out) (by decide) (by have := HNN.out; omega) HNB.out).mono ?_
  rintro e w2 ⟨q1, rfl, h⟩
  have H2 := hid h
  clear h H1 hC'
  go_wp2_with fail
  apply share3 (fun gh gd rb z => Sts w [blkP rb (.cells #[.bool false, .bool false, .bool false, .slice (some ⟨gh, 0, none⟩) n n, .slice (some ⟨gd, 0, none⟩) n n] 53 (0, 0)), rowP 4 1 (.slice (some ⟨gh, 0, none⟩) n n) n (bools (List.replicate n false)), rowP 5 1 (.slice (some ⟨gd, 0, none⟩) n n) n (u8s (List.replicate n 0)), srcP q1 (newSrc 1 7 2 ⟨#[120]⟩ data (C : Int) 4 255)] z)
  · intro key
    refine wp_region_ordT (.pure 0 (.pure 1 (.pure 3 (.pure 4 (.eff3 2 5 7 (.eff2 5 7 (.pure 6 (.eff 7 (.eff 8 .nil))) (.eff 5 (.pure 6 (.eff 8 .nil)))) (.eff2 2 7 (.pure 6 (.eff 7 (.eff 8 .nil))) (.eff 2 (.pure 6 (.eff 8 .nil)))) (.eff2 2 5 (.eff 5 (.pure 6 (.eff 8 .nil))) (.eff 2 (.pure 6 (.eff 8 .nil))))))))) (fun _ => True) (fun y => Sts w [srcP q1 (newSrc 1 7 2 ⟨#[120]⟩ data (C : Int) 4 255)] y) (by kernel_rfl) (by kernel_rfl) (H2.out.drew (stab1 (srcP_stable _ _))) (fun _ _ => trivial) ?_
    apply ordT_pure (ho := rfl)
    · go_simp
    · intro x hx; go_simp; rfl
    apply ordT_norm
    · go_simp; rfl
    apply ordT_pure (ho := rfl)
    · go_simp
    · intro x hx; go_simp; rfl
    apply ordT_norm
    · go_simp; rfl
    apply ordT_pure (ho := rfl)
    · go_simp
    · intro x hx; go_simp; rfl
    apply ordT_norm
    · go_simp; rfl
    apply ordT_pure (ho := rfl)
    · go_simp
    · intro x hx; go_simp; rfl
    apply ordT_norm
    · go_simp; rfl
    refine ordT_eff3 ?_ ?_ ?_
    · apply ordT_eff (ho := rfl)
      · go_simp
      intro y hy
      refine eff_makeB (stabC (srcP_stable _ _) stab0) hy (.tmp 39) (.tmp 39) rfl n (by omega) rfl rfl (fun _ => trivial) ?_
      intro gh
      clear hy y
      apply ordT_norm
      · go_simp; rfl
      refine ordT_eff2 ?_ ?_
      · apply ordT_eff (ho := rfl)
        · go_simp
        intro y hy
        refine eff_makeU (stabC (rowP_stable _ _ _ _ _) (stabC (srcP_stable _ _) stab0)) hy (.tmp 42) (.tmp 42) rfl n (by omega) rfl rfl (fun _ => trivial) ?_
        intro gd
        clear hy y
        apply ordT_norm
        · go_simp; rfl
        apply ordT_pure (ho := rfl)
        · go_simp
        · intro x hx; go_simp; rfl
        apply ordT_norm
        · go_simp; rfl
        apply ordT_eff (ho := rfl)
        · go_simp
        intro y hy
        refine eff_allocR (stabC (rowP_stable _ _ _ _ _) (stabC (rowP_stable _ _ _ _ _) (stabC (srcP_stable _ _) stab0))) hy rfl (fun _ => trivial) ?_
        intro rb
        clear hy y
        apply ordT_norm
        · go_simp; rfl
        apply ordT_eff (ho := rfl)
        · go_simp
        intro y hy
        refine eff_aggT hy (stabC (rowP_stable _ _ _ _ _) (stabC (rowP_stable _ _ _ _ _) (stabC (srcP_stable _ _) stab0))) (.tmp 9) (.tmp 44) 53 rfl #[.bool false, .bool false, .bool false, .slice (some ⟨gh, 0, none⟩) n n, .slice (some ⟨gd, 0, none⟩) n n] rfl rfl sizeRcvC rfl rfl (fun _ => True) (fun _ _ => trivial) ?_
        clear hy y
        apply ordT_norm
        · go_simp; rfl
        refine ordT_nil fun z hz => ?_
        exact key gh gd rb z (hz.perm (List.Perm.cons _ (List.Perm.swap _ _ _)))
      · apply ordT_eff (ho := rfl)
        · go_simp
        intro y hy
        refine eff_allocR (stabC (rowP_stable _ _ _ _ _) (stabC (srcP_stable _ _) stab0)) hy rfl (fun _ => trivial) ?_
        intro rb
        clear hy y
        apply ordT_norm
        · go_simp; rfl
        apply ordT_eff (ho := rfl)
        · go_simp
        intro y hy
        refine eff_makeU (stabC (blkP_stable _ _) (stabC (rowP_stable _ _ _ _ _) (stabC (srcP_stable _ _) stab0))) hy (.tmp 42) (.tmp 42) rfl n (by omega) rfl rfl (fun _ => trivial) ?_
        intro gd
        clear hy y
        apply ordT_norm
        · go_simp; rfl
        apply ordT_pure (ho := rfl)
        · go_simp
        · intro x hx; go_simp; rfl
        apply ordT_norm
        · go_simp; rfl
        apply ordT_eff (ho := rfl)
        · go_simp
        intro y hy
        refine eff_aggT (hy.perm (List.perm_middle (l₁ := [_]) (l₂ := _))) (stabC (rowP_stable _ _ _ _ _) (stabC (rowP_stable _ _ _ _ _) (stabC (srcP_stable _ _) stab0))) (.tmp 9) (.tmp 44) 53 rfl #[.bool false, .bool false, .bool false, .slice (some ⟨gh, 0, none⟩) n n, .slice (some ⟨gd, 0, none⟩) n n] rfl rfl sizeRcvC rfl rfl (fun _ => True) (fun _ _ => trivial) ?_
        clear hy y
        apply ordT_norm
        · go_simp; rfl
        refine ordT_nil fun z hz => ?_
        exact key gh gd rb z (hz.perm (List.Perm.cons _ (List.Perm.swap _ _ _)))
    · apply ordT_eff (ho := rfl)
      · go_simp
      intro y hy
      refine eff_makeU (stabC (srcP_stable _ _) stab0) hy (.tmp 42) (.tmp 42) rfl n (by omega) rfl rfl (fun _ => trivial) ?_
      intro gd
      clear hy y
      apply ordT_norm
      · go_simp; rfl
      refine ordT_eff2 ?_ ?_
      · apply ordT_eff (ho := rfl)
        · go_simp
        intro y hy
        refine eff_makeB (stabC (rowP_stable _ _ _ _ _) (stabC (srcP_stable _ _) stab0)) hy (.tmp 39) (.tmp 39) rfl n (by omega) rfl rfl (fun _ => trivial) ?_
        intro gh
        clear hy y
        apply ordT_norm
        · go_simp; rfl
        apply ordT_pure (ho := rfl)
        · go_simp
        · intro x hx; go_simp; rfl
        apply ordT_norm
        · go_simp; rfl
        apply ordT_eff (ho := rfl)
        · go_simp
        intro y hy
        refine eff_allocR (stabC (rowP_stable _ _ _ _ _) (stabC (rowP_stable _ _ _ _ _) (stabC (srcP_stable _ _) stab0))) hy rfl (fun _ => trivial) ?_
        intro rb
        clear hy y
        apply ordT_norm
        · go_simp; rfl
        apply ordT_eff (ho := rfl)
        · go_simp
        intro y hy
        refine eff_aggT hy (stabC (rowP_stable _ _ _ _ _) (stabC (rowP_stable _ _ _ _ _) (stabC (srcP_stable _ _) stab0))) (.tmp 9) (.tmp 44) 53 rfl #[.bool false, .bool false, .bool false, .slice (some ⟨gh, 0, none⟩) n n, .slice (some ⟨gd, 0, none⟩) n n] rfl rfl sizeRcvC rfl rfl (fun _ => True) (fun _ _ => trivial) ?_
        clear hy y
        apply ordT_norm
        · go_simp; rfl
        refine ordT_nil fun z hz => ?_
        exact key gh gd rb z (hz)
      · apply ordT_eff (ho := rfl)
        · go_simp
        intro y hy
        refine eff_allocR (stabC (rowP_stable _ _ _ _ _) (stabC (srcP_stable _ _) stab0)) hy rfl (fun _ => trivial) ?_
        intro rb
        clear hy y
        apply ordT_norm
        · go_simp; rfl
        apply ordT_eff (ho := rfl)
        · go_simp
        intro y hy
        refine eff_makeB (stabC (blkP_stable _ _) (stabC (rowP_stable _ _ _ _ _) (stabC (srcP_stable _ _) stab0))) hy (.tmp 39) (.tmp 39) rfl n (by omega) rfl rfl (fun _ => trivial) ?_
        intro gh
        clear hy y
        apply ordT_norm
        · go_simp; rfl
        apply ordT_pure (ho := rfl)
        · go_simp
        · intro x hx; go_simp; rfl
        apply ordT_norm
        · go_simp; rfl
        apply ordT_eff (ho := rfl)
        · go_simp
        intro y hy
        refine eff_aggT (hy.perm (List.perm_middle (l₁ := [_]) (l₂ := _))) (stabC (rowP_stable _ _ _ _ _) (stabC (rowP_stable _ _ _ _ _) (stabC (srcP_stable _ _) stab0))) (.tmp 9) (.tmp 44) 53 rfl #[.bool false, .bool false, .bool false, .slice (some ⟨gh, 0, none⟩) n n, .slice (some ⟨gd, 0, none⟩) n n] rfl rfl sizeRcvC rfl rfl (fun _ => True) (fun _ _ => trivial) ?_
        clear hy y
        apply ordT_norm
        · go_simp; rfl
        refine ordT_nil fun z hz => ?_
        exact key gh gd rb z (hz)
    · apply ordT_eff (ho := rfl)
      · go_simp
      intro y hy
      refine eff_allocR (stabC (srcP_stable _ _) stab0) hy rfl (fun _ => trivial) ?_
      intro rb
      clear hy y
      apply ordT_norm
      · go_simp; rfl
      refine ordT_eff2 ?_ ?_
      · apply ordT_eff (ho := rfl)
        · go_simp
        intro y hy
        refine eff_makeB (stabC (blkP_stable _ _) (stabC (srcP_stable _ _) stab0)) hy (.tmp 39) (.tmp 39) rfl n (by omega) rfl rfl (fun _ => trivial) ?_
        intro gh
        clear hy y
        apply ordT_norm
        · go_simp; rfl
        apply ordT_eff (ho := rfl)
        · go_simp
        intro y hy
        refine eff_makeU (stabC (rowP_stable _ _ _ _ _) (stabC (blkP_stable _ _) (stabC (srcP_stable _ _) stab0))) hy (.tmp 42) (.tmp 42) rfl n (by omega) rfl rfl (fun _ => trivial) ?_
        intro gd
        clear hy y
        apply ordT_norm
        · go_simp; rfl
        apply ordT_pure (ho := rfl)
        · go_simp
        · intro x hx; go_simp; rfl
        apply ordT_norm
        · go_simp; rfl
        apply ordT_eff (ho := rfl)
        · go_simp
        intro y hy
        refine eff_aggT (hy.perm (List.perm_middle (l₁ := [_, _]) (l₂ := _))) (stabC (rowP_stable _ _ _ _ _) (stabC (rowP_stable _ _ _ _ _) (stabC (srcP_stable _ _) stab0))) (.tmp 9) (.tmp 44) 53 rfl #[.bool false, .bool false, .bool false, .slice (some ⟨gh, 0, none⟩) n n, .slice (some ⟨gd, 0, none⟩) n n] rfl rfl sizeRcvC rfl rfl (fun _ => True) (fun _ _ => trivial) ?_
        clear hy y
        apply ordT_norm
        · go_simp; rfl
        refine ordT_nil fun z hz => ?_
        exact key gh gd rb z (hz.perm (List.Perm.cons _ (List.Perm.swap _ _ _)))
      · apply ordT_eff (ho := rfl)
        · go_simp
        intro y hy
        refine eff_makeU (stabC (blkP_stable _ _) (stabC (srcP_stable _ _) stab0)) hy (.tmp 42) (.tmp 42) rfl n (by omega) rfl rfl (fun _ => trivial) ?_
        intro gd
        clear hy y
        apply ordT_norm
        · go_simp; rfl
        apply ordT_eff (ho := rfl)
        · go_simp
        intro y hy
        refine eff_makeB (stabC (rowP_stable _ _ _ _ _) (stabC (blkP_stable _ _) (stabC (srcP_stable _ _) stab0))) hy (.tmp 39) (.tmp 39) rfl n (by omega) rfl rfl (fun _ => trivial) ?_
        intro gh
        clear hy y
        apply ordT_norm
        · go_simp; rfl
        apply ordT_pure (ho := rfl)
        · go_simp
        · intro x hx; go_simp; rfl
        apply ordT_norm
        · go_simp; rfl
        apply ordT_eff (ho := rfl)
        · go_simp
        intro y hy
        refine eff_aggT (hy.perm (List.perm_middle (l₁ := [_, _]) (l₂ := _))) (stabC (rowP_stable _ _ _ _ _) (stabC (rowP_stable _ _ _ _ _) (stabC (srcP_stable _ _) stab0))) (.tmp 9) (.tmp 44) 53 rfl #[.bool false, .bool false, .bool false, .slice (some ⟨gh, 0, none⟩) n n, .slice (some ⟨gd, 0, none⟩) n n] rfl rfl sizeRcvC rfl rfl (fun _ => True) (fun _ _ => trivial) ?_
        clear hy y
        apply ordT_norm
        · go_simp; rfl
        refine ordT_nil fun z hz => ?_
        exact key gh gd rb z (hz)
  · intro gh gd rb w3 h3
    have H3 := hid h3
    clear h3 H2
    have HI0 := hid (show Fil.Inv data loss 0 (newSrc 1 7 2 ⟨#[120]⟩ data (C : Int) 4 255) ⟨false, false, false, List.replicate n false, List.replicate n 0⟩ 0 by rw [HNN.out]; exact inv_start _ _ _ _ HNB.out HD.out.2)
    have HLS := hid (fun (x : World) (hx : Below w.heap.size w x) (k : Nat) (hk : k < 1000000000) => show Calls Try.prog 23 #[.slice la m lc, .int .i64 (k : Nat)] x fun e w' => e = .returned (.bool (Fil.lost loss k)) ∧ Below x.heap.size x w' from cLost x (.slice la m lc) loss (HLO.out.below hx) (by rw [← HMM.out]; exact hm1) k hk)
    clear HLO HC HNB
    go_wp2_with fail
    go_loopw [10, 11] (fun kv nv wr => ∃ (K N : Nat) (s : Fil.Src) (nm en cl : Bool) (hv : List Bool) (dt : List Nat), kv = .int .i64 K ∧ nv = .int .i64 N ∧ N ≤ 1500 ∧ K ≤ N * 4000 ∧ Hid (Fil.Inv data loss N s ⟨nm, en, cl, hv, dt⟩ K) ∧ Sts w [blkP rb (.cells #[.bool nm, .bool en, .bool cl, .slice (some ⟨gh, 0, none⟩) n n, .slice (some ⟨gd, 0, none⟩) n n] 53 (0, 0)), rowP 4 1 (.slice (some ⟨gh, 0, none⟩) n n) n (bools hv), rowP 5 1 (.slice (some ⟨gd, 0, none⟩) n n) n (u8s dt), srcP q1 s] wr) (fun _ nv _ => 1500 - (intOf nv).toNat)
    case atStart => exact ⟨0, 0, _, _, _, _, _, _, rfl, rfl, by omega, by omega, HI0, H3.out⟩
    case round =>
      obtain ⟨K, N, s, nm, en, cl, hv, dt, rfl, rfl, hN, hK, HI, hS⟩ := hrel
      clear H3 HI0
      have HS := hid hS
      clear hS
      by_cases hx : N < 1500 ∧ s.phase ≠ 4
      · obtain ⟨hN5, h4⟩ := hx
        have e0 : decide ((N : Int) < 1500) = true := decide_eq_true (by omega)
        have HST := hid (cStateS (w := wr) (l := [blkP rb (.cells #[.bool nm, .bool en, .bool cl, .slice (some ⟨gh, 0, none⟩) n n, .slice (some ⟨gd, 0, none⟩) n n] 53 (0, 0)), rowP 4 1 (.slice (some ⟨gh, 0, none⟩) n n) n (bools hv), rowP 5 1 (.slice (some ⟨gd, 0, none⟩) n n) n (u8s dt)]) q1 s (Sts.rot HS.out))
        obtain ⟨sv, hsv⟩ : ∃ sv, sv = s.stateV := ⟨_, rfl⟩
        have e1 : (sv == 4) = false := by rw [beq_eq_false_iff_ne, hsv]; exact Fil.state_ne HI.out.1.susp h4
        have e3 : (sv != 4) = true := by unfold bne; rw [e1]; rfl
        rw [← hsv] at HST
        clear hsv h4
        go_wp2_with (first | (go_at_call 17; refine HST.out.mono ?_; rintro e w4 ⟨rfl, rfl⟩; clear HST))
        clear e1 e3
        go_loopw [10, 12] (fun kv iv wr2 => ∃ (K2 I : Nat) (s2 : Fil.Src) (nm2 en2 cl2 : Bool) (hv2 : List Bool) (dt2 : List Nat), kv = .int .i64 K2 ∧ iv = .int .i64 I ∧ K2 ≤ K + 2 * I ∧ Hid (Fil.left n N s2 + I ≤ n + 4) ∧ Hid (Fil.Inv data loss N s2 ⟨nm2, en2, cl2, hv2, dt2⟩ K2) ∧ Sts w [blkP rb (.cells #[.bool nm2, .bool en2, .bool cl2, .slice (some ⟨gh, 0, none⟩) n n, .slice (some ⟨gd, 0, none⟩) n n] 53 (0, 0)), rowP 4 1 (.slice (some ⟨gh, 0, none⟩) n n) n (bools hv2), rowP 5 1 (.slice (some ⟨gd, 0, none⟩) n n) n (u8s dt2), srcP q1 s2] wr2) (fun _ iv _ => n + 200 - (intOf iv).toNat)
        case atStart => exact ⟨K, 0, s, nm, en, cl, hv, dt, rfl, rfl, by omega, hid (by have h := Fil.left_first HI.out (by rw [← HNN.out]; exact hn5); rw [← HNN.out] at h; exact h), HI, HS.out⟩
        case round =>
          obtain ⟨K2, I, s2, nm2, en2, cl2, hv2, dt2, rfl, rfl, hK2, HLF, HI2, hS2⟩ := hrel
          clear HS HI
          have HS2 := hid hS2
          clear hS2
          have hI : I ≤ n + 4 := by have := HLF.out; omega
          have e2 : decide ((I : Int) < (n : Int) + 200) = true := decide_eq_true (by omega)
          obtain ⟨⟨s3, u⟩, he⟩ : ∃ p, p = s2.nextV (N : Int) := ⟨_, rfl⟩
          have HNX0 := cNext (stabC (blkP_stable _ _) (stabC (rowP_stable _ _ _ _ _) (stab1 (rowP_stable _ _ _ _ _)))) q1 s2 (Sts.rot HS2.out) HI2.out.1.good (N : Int)
          rw [← he] at HNX0
          have HE := hid he.symm
          clear he
          obtain ⟨s1, hs1⟩ : ∃ s1, s1 = s2.pass (N : Int) := ⟨_, rfl⟩
          rw [← hs1] at HNX0
          have HS1 := hid (show s1.data = s2.data by rw [hs1]; unfold Fil.Src.pass; split <;> rfl)
          have HSD := hid (show s1.data = data from HS1.out.trans HI2.out.1.dat)
          clear hs1
          cases u with
          | non =>
            obtain ⟨HI3, HQ3⟩ := Fil.quiet HI2.out (by omega) (by rw [← HMM.out]; exact hm1) HE.out
            have HI3 := hid HI3
            have HQ3 := hid HQ3
            have HNX := hid (show Calls Try.prog 20 #[.pointer (some ⟨q1, 0, none⟩), .int .i64 (N : Int)] wr fun e w' => ∃ pa pc, e = .returned (.tuple #[.agg #[.int .i64 0, .int .i64 0, .int .i64 0, .int .i64 0, .string ⟨#[]⟩, .int .i64 0, .int .i64 0, .slice none 0 0, .int .u32 0, .int .i64 0, .slice none 0 0], .bool false]) ∧ Sts w [srcP q1 s3, rowU pa pc [], blkP rb (.cells #[.bool nm2, .bool en2, .bool cl2, .slice (some ⟨gh, 0, none⟩) n n, .slice (some ⟨gd, 0, none⟩) n n] 53 (0, 0)), rowP 4 1 (.slice (some ⟨gh, 0, none⟩) n n) n (bools hv2), rowP 5 1 (.slice (some ⟨gd, 0, none⟩) n n) n (u8s dt2)] w' from HNX0)
            clear HNX0
            by_cases hm4 : N % 4 = 3
            · have r1 : ((N : Int) % 4 == 3) = true := by rw [beq_iff_eq]; omega
              cases en2
              · have INV := hid (Fil.tick_skip HI3.out HQ3.out (Or.inr (Or.inl rfl)))
                go_wp2_with (first | (go_at_call 20; refine HNX.out.mono ?_; rintro e w4 ⟨pa, pc, rfl, h4⟩; have HAL := hid (h4.alloc (stabC (srcP_stable _ _) (stabC (rowU_stable _ _ _) (stabC (blkP_stable _ _) (stabC (rowP_stable _ _ _ _ _) (stab1 (rowP_stable _ _ _ _ _)))))) (.cells #[.int .i64 0, .int .i64 0, .int .i64 0, .int .i64 0, .string ⟨#[]⟩, .int .i64 0, .int .i64 0, .slice none 0 0, .int .u32 0, .int .i64 0, .slice none 0 0] 45)); clear h4 HNX) | (refine wpList_agg HAL.out (stabC (srcP_stable _ _) (stabC (rowU_stable _ _ _) (stabC (blkP_stable _ _) (stabC (rowP_stable _ _ _ _ _) (stab1 (rowP_stable _ _ _ _ _)))))) rfl (.tmp 13) (.tmp 65) 45 rfl #[.int .i64 0, .int .i64 0, .int .i64 0, .int .i64 0, .string ⟨#[]⟩, .int .i64 0, .int .i64 0, .slice none 0 0, .int .u32 0, .int .i64 0, .slice none 0 0] rfl rfl sizePdu rfl rfl ?_; intro w5 h5; have H5 := hid h5; have g1 : w5.cell? ⟨rb, 1, none⟩ = some (.bool false) := (Sts.boxCell (Sts.back6 h5) 1 _ rfl).1; have g2 : w5.cell? ⟨rb, 2, none⟩ = some (.bool cl2) := (Sts.boxCell (Sts.back6 h5) 2 _ rfl).1; clear h5 HAL))
                go_roundw
                case rel => exact ⟨K2, N + 1, s3, nm2, false, cl2, hv2, dt2, by go_num, by go_num, by omega, by omega, hid INV.out, (Sts.back6 H5.out)⟩
                case measure => (simp [intOf]; try omega)
              · cases cl2
                · have LO1 := hid (fun (x : World) (hx : Below w.heap.size w x) => HLS.out x hx K2 (by omega))
                  rcases Bool.eq_false_or_eq_true (Fil.lost loss K2) with hl1 | hl1
                  · rw [hl1] at LO1
                    have INV := hid (Fil.tick_lost HI3.out HQ3.out (by rw [← HMM.out]; exact hm1) rfl hl1)
                    clear hl1
                    go_wp2_with (first | (go_at_call 20; refine HNX.out.mono ?_; rintro e w4 ⟨pa, pc, rfl, h4⟩; have HAL := hid (h4.alloc (stabC (srcP_stable _ _) (stabC (rowU_stable _ _ _) (stabC (blkP_stable _ _) (stabC (rowP_stable _ _ _ _ _) (stab1 (rowP_stable _ _ _ _ _)))))) (.cells #[.int .i64 0, .int .i64 0, .int .i64 0, .int .i64 0, .string ⟨#[]⟩, .int .i64 0, .int .i64 0, .slice none 0 0, .int .u32 0, .int .i64 0, .slice none 0 0] 45)); clear h4 HNX) | (refine wpList_agg HAL.out (stabC (srcP_stable _ _) (stabC (rowU_stable _ _ _) (stabC (blkP_stable _ _) (stabC (rowP_stable _ _ _ _ _) (stab1 (rowP_stable _ _ _ _ _)))))) rfl (.tmp 13) (.tmp 65) 45 rfl #[.int .i64 0, .int .i64 0, .int .i64 0, .int .i64 0, .string ⟨#[]⟩, .int .i64 0, .int .i64 0, .slice none 0 0, .int .u32 0, .int .i64 0, .slice none 0 0] rfl rfl sizePdu rfl rfl ?_; intro w5 h5; have H5 := hid h5; have g1 : w5.cell? ⟨rb, 1, none⟩ = some (.bool true) := (Sts.boxCell (Sts.back6 h5) 1 _ rfl).1; have g2 : w5.cell? ⟨rb, 2, none⟩ = some (.bool false) := (Sts.boxCell (Sts.back6 h5) 2 _ rfl).1; clear h5 HAL) | (go_at_call 23; refine (LO1.out _ H5.out.below).mono ?_; rintro e w6 ⟨rfl, hb⟩; have H6 := hid (H5.out.quiet (stabC (blkP_stable _ _) (stabC (srcP_stable _ _) (stabC (rowU_stable _ _ _) (stabC (blkP_stable _ _) (stabC (rowP_stable _ _ _ _ _) (stab1 (rowP_stable _ _ _ _ _))))))) hb); clear hb LO1 H5; skip))
                    go_roundw
                    case rel => exact ⟨K2 + 1, N + 1, s3, nm2, true, false, hv2, dt2, by go_num, by go_num, by omega, by omega, hid INV.out, (Sts.back6 H6.out)⟩
                    case measure => (simp [intOf]; try omega)
                  · rw [hl1] at LO1
                    clear hl1
                    have HAN := hid (fun (x : World) hx => cAnswer (W := w) (w := x) (l := [srcP q1 s3]) (stab1 (srcP_stable _ _)) rb gh gd n n n nm2 true false hv2 dt2 hx hn5 (by rw [HI2.out.1.hl, HNN.out]))
                    have HAV := hid (show (Fil.ansS hv2 nm2 (n + 1)).1 = Fil.ansV ⟨nm2, true, false, hv2, dt2⟩ by unfold Fil.ansV; rw [HI2.out.1.hl, HNN.out])
                    have HG3 := hid HI3.out.1.good
                    obtain ⟨L, hL⟩ : ∃ L, L = (Fil.ansS hv2 nm2 (n + 1)).1 := ⟨_, rfl⟩
                    rw [← hL] at HAN HAV
                    have HL16 := hid (show L.length ≤ 16 by rw [hL]; exact (Fil.ansS_bd _ _ _).1)
                    clear hL
                    by_cases hLn : L = []
                    · obtain ⟨hok, hin⟩ := Fil.tick_fin HI3.out HQ3.out (by omega) rfl (HAV.out ▸ hLn)
                      have HOK := hid hok
                      have INV := hid hin
                      clear hok hin
                      obtain ⟨s4, hs4⟩ : ∃ s4, s4 = (s3.takeV Fil.finP5 N).1 := ⟨_, rfl⟩
                      have HS4 := hid hs4
                      rw [← hs4] at INV
                      clear hs4
                      go_wp2_with (first | (go_at_call 20; refine HNX.out.mono ?_; rintro e w4 ⟨pa, pc, rfl, h4⟩; have HAL := hid (h4.alloc (stabC (srcP_stable _ _) (stabC (rowU_stable _ _ _) (stabC (blkP_stable _ _) (stabC (rowP_stable _ _ _ _ _) (stab1 (rowP_stable _ _ _ _ _)))))) (.cells #[.int .i64 0, .int .i64 0, .int .i64 0, .int .i64 0, .string ⟨#[]⟩, .int .i64 0, .int .i64 0, .slice none 0 0, .int .u32 0, .int .i64 0, .slice none 0 0] 45)); clear h4 HNX) | (refine wpList_agg HAL.out (stabC (srcP_stable _ _) (stabC (rowU_stable _ _ _) (stabC (blkP_stable _ _) (stabC (rowP_stable _ _ _ _ _) (stab1 (rowP_stable _ _ _ _ _)))))) rfl (.tmp 13) (.tmp 65) 45 rfl #[.int .i64 0, .int .i64 0, .int .i64 0, .int .i64 0, .string ⟨#[]⟩, .int .i64 0, .int .i64 0, .slice none 0 0, .int .u32 0, .int .i64 0, .slice none 0 0] rfl rfl sizePdu rfl rfl ?_; intro w5 h5; have H5 := hid h5; have g1 : w5.cell? ⟨rb, 1, none⟩ = some (.bool true) := (Sts.boxCell (Sts.back6 h5) 1 _ rfl).1; have g2 : w5.cell? ⟨rb, 2, none⟩ = some (.bool false) := (Sts.boxCell (Sts.back6 h5) 2 _ rfl).1; clear h5 HAL) | (go_at_call 23; refine (LO1.out _ H5.out.below).mono ?_; rintro e w6 ⟨rfl, hb⟩; have H6 := hid (H5.out.quiet (stabC (blkP_stable _ _) (stabC (srcP_stable _ _) (stabC (rowU_stable _ _ _) (stabC (blkP_stable _ _) (stabC (rowP_stable _ _ _ _ _) (stab1 (rowP_stable _ _ _ _ _))))))) hb); clear hb LO1 H5; skip) | (go_at_call 26; refine (HAN.out _ (Sts.back6 H6.out)).mono ?_; rintro e w7 ⟨ga, gc, ⟨ha1, ha2⟩, h7⟩; obtain rfl := ha1 hLn; have H7 := hid (Sts.ans5 h7); clear ha1 ha2 h7 HAN H6) | (go_at_call 25; refine (cTake (stabC (rowP_stable _ _ _ _ _) (stabC (blkP_stable _ _) (stabC (rowP_stable _ _ _ _ _) (stab1 (rowP_stable _ _ _ _ _))))) q1 s3 H7.out HG3.out Fil.finP5 (N : Int) (by show (0 : Nat) ≤ 1000000; omega) (by show (0 : Nat) < 1000000000; omega) (by decide) (fun A y _ => RdR.nil y)).mono ?_; rintro e w8 ⟨he8, h8⟩; rw [HOK.out] at he8; subst he8; have H8 := hid (Sts.ans5' h8); clear h8 H7))
                      go_roundw
                      case rel => exact ⟨K2 + 1, N + 1, s4, nm2, true, false, hv2, dt2, by go_num, by go_num, by omega, by omega, hid INV.out, (by rw [HS4.out]; exact H8.out)⟩
                      case measure => (simp [intOf]; try omega)
                    · have HTN := hid (fun ga gc => by have h := Fil.tick_nak HI3.out HQ3.out (by omega) (by rw [← HNN.out]; exact hn5) rfl (HAV.out ▸ hLn) ga gc; rw [← HAV.out] at h; exact h)
                      go_wp2_with (first | (go_at_call 20; refine HNX.out.mono ?_; rintro e w4 ⟨pa, pc, rfl, h4⟩; have HAL := hid (h4.alloc (stabC (srcP_stable _ _) (stabC (rowU_stable _ _ _) (stabC (blkP_stable _ _) (stabC (rowP_stable _ _ _ _ _) (stab1 (rowP_stable _ _ _ _ _)))))) (.cells #[.int .i64 0, .int .i64 0, .int .i64 0, .int .i64 0, .string ⟨#[]⟩, .int .i64 0, .int .i64 0, .slice none 0 0, .int .u32 0, .int .i64 0, .slice none 0 0] 45)); clear h4 HNX) | (refine wpList_agg HAL.out (stabC (srcP_stable _ _) (stabC (rowU_stable _ _ _) (stabC (blkP_stable _ _) (stabC (rowP_stable _ _ _ _ _) (stab1 (rowP_stable _ _ _ _ _)))))) rfl (.tmp 13) (.tmp 65) 45 rfl #[.int .i64 0, .int .i64 0, .int .i64 0, .int .i64 0, .string ⟨#[]⟩, .int .i64 0, .int .i64 0, .slice none 0 0, .int .u32 0, .int .i64 0, .slice none 0 0] rfl rfl sizePdu rfl rfl ?_; intro w5 h5; have H5 := hid h5; have g1 : w5.cell? ⟨rb, 1, none⟩ = some (.bool true) := (Sts.boxCell (Sts.back6 h5) 1 _ rfl).1; have g2 : w5.cell? ⟨rb, 2, none⟩ = some (.bool false) := (Sts.boxCell (Sts.back6 h5) 2 _ rfl).1; clear h5 HAL) | (go_at_call 23; refine (LO1.out _ H5.out.below).mono ?_; rintro e w6 ⟨rfl, hb⟩; have H6 := hid (H5.out.quiet (stabC (blkP_stable _ _) (stabC (srcP_stable _ _) (stabC (rowU_stable _ _ _) (stabC (blkP_stable _ _) (stabC (rowP_stable _ _ _ _ _) (stab1 (rowP_stable _ _ _ _ _))))))) hb); clear hb LO1 H5; skip) | (go_at_call 26; refine (HAN.out _ (Sts.back6 H6.out)).mono ?_; rintro e w7 ⟨ga, gc, ⟨ha1, ha2⟩, h7⟩; obtain rfl := ha2 hLn; have H7 := hid (Sts.ans5 h7); obtain ⟨hok, hin⟩ := HTN.out ga gc; have HOK := hid hok; have INV := hid hin; clear hok hin HTN; clear ha1 ha2 h7 HAN H6) | (go_at_call 25; refine (cTakeNakL (stabC (blkP_stable _ _) (stabC (rowP_stable _ _ _ _ _) (stab1 (rowP_stable _ _ _ _ _)))) q1 s3 ga gc L H7.out HG3.out (N : Int) HL16.out).mono ?_; rintro e w8 ⟨he8, h8⟩; rw [HOK.out] at he8; subst he8; have H8 := hid (Sts.ans5' h8); clear h8 H7))
                      go_roundw
                      case rel => exact ⟨K2 + 1, N + 1, (s3.takeV (Fil.nakP ga gc L) N).1, nm2, true, false, hv2, dt2, by go_num, by go_num, by omega, by omega, hid INV.out, H8.out⟩
                      case measure => (simp [intOf]; try omega)
                · have INV := hid (Fil.tick_skip HI3.out HQ3.out (Or.inr (Or.inr rfl)))
                  go_wp2_with (first | (go_at_call 20; refine HNX.out.mono ?_; rintro e w4 ⟨pa, pc, rfl, h4⟩; have HAL := hid (h4.alloc (stabC (srcP_stable _ _) (stabC (rowU_stable _ _ _) (stabC (blkP_stable _ _) (stabC (rowP_stable _ _ _ _ _) (stab1 (rowP_stable _ _ _ _ _)))))) (.cells #[.int .i64 0, .int .i64 0, .int .i64 0, .int .i64 0, .string ⟨#[]⟩, .int .i64 0, .int .i64 0, .slice none 0 0, .int .u32 0, .int .i64 0, .slice none 0 0] 45)); clear h4 HNX) | (refine wpList_agg HAL.out (stabC (srcP_stable _ _) (stabC (rowU_stable _ _ _) (stabC (blkP_stable _ _) (stabC (rowP_stable _ _ _ _ _) (stab1 (rowP_stable _ _ _ _ _)))))) rfl (.tmp 13) (.tmp 65) 45 rfl #[.int .i64 0, .int .i64 0, .int .i64 0, .int .i64 0, .string ⟨#[]⟩, .int .i64 0, .int .i64 0, .slice none 0 0, .int .u32 0, .int .i64 0, .slice none 0 0] rfl rfl sizePdu rfl rfl ?_; intro w5 h5; have H5 := hid h5; have g1 : w5.cell? ⟨rb, 1, none⟩ = some (.bool true) := (Sts.boxCell (Sts.back6 h5) 1 _ rfl).1; have g2 : w5.cell? ⟨rb, 2, none⟩ = some (.bool true) := (Sts.boxCell (Sts.back6 h5) 2 _ rfl).1; clear h5 HAL))
                  go_roundw
                  case rel => exact ⟨K2, N + 1, s3, nm2, true, true, hv2, dt2, by go_num, by go_num, by omega, by omega, hid INV.out, (Sts.back6 H5.out)⟩
                  case measure => (simp [intOf]; try omega)
            · have r1 : ((N : Int) % 4 == 3) = false := by rw [beq_eq_false_iff_ne]; omega
              have INV := hid (Fil.tick_skip HI3.out HQ3.out (Or.inl hm4))
              go_wp2_with (first | (go_at_call 20; refine HNX.out.mono ?_; rintro e w4 ⟨pa, pc, rfl, h4⟩; have HAL := hid (h4.alloc (stabC (srcP_stable _ _) (stabC (rowU_stable _ _ _) (stabC (blkP_stable _ _) (stabC (rowP_stable _ _ _ _ _) (stab1 (rowP_stable _ _ _ _ _)))))) (.cells #[.int .i64 0, .int .i64 0, .int .i64 0, .int .i64 0, .string ⟨#[]⟩, .int .i64 0, .int .i64 0, .slice none 0 0, .int .u32 0, .int .i64 0, .slice none 0 0] 45)); clear h4 HNX) | (refine wpList_agg HAL.out (stabC (srcP_stable _ _) (stabC (rowU_stable _ _ _) (stabC (blkP_stable _ _) (stabC (rowP_stable _ _ _ _ _) (stab1 (rowP_stable _ _ _ _ _)))))) rfl (.tmp 13) (.tmp 65) 45 rfl #[.int .i64 0, .int .i64 0, .int .i64 0, .int .i64 0, .string ⟨#[]⟩, .int .i64 0, .int .i64 0, .slice none 0 0, .int .u32 0, .int .i64 0, .slice none 0 0] rfl rfl sizePdu rfl rfl ?_; intro w5 h5; have H5 := hid h5; have g1 : w5.cell? ⟨rb, 1, none⟩ = some (.bool en2) := (Sts.boxCell (Sts.back6 h5) 1 _ rfl).1; have g2 : w5.cell? ⟨rb, 2, none⟩ = some (.bool cl2) := (Sts.boxCell (Sts.back6 h5) 2 _ rfl).1; clear h5 HAL))
              go_roundw
              case rel => exact ⟨K2, N + 1, s3, nm2, en2, cl2, hv2, dt2, by go_num, by go_num, by omega, by omega, hid INV.out, (Sts.back6 H5.out)⟩
              case measure => (simp [intOf]; try omega)
          | ack =>
            have STP := hid (Fil.step1 HI2.out (by omega) (by rw [← HNN.out]; exact hn5) (by rw [← HMM.out]; exact hm1) HE.out (by simp))
            have HNX := hid (show Calls Try.prog 20 #[.pointer (some ⟨q1, 0, none⟩), .int .i64 (N : Int)] wr fun e w' => ∃ pa pc, e = .returned (.tuple #[.agg #[.int .i64 7, .int .i64 s1.src, .int .i64 s1.num, .int .i64 0, .string ⟨#[]⟩, .int .i64 0, .int .i64 0, .slice none 0 0, .int .u32 0, .int .i64 0, .slice none 0 0], .bool true]) ∧ Sts w [srcP q1 s3, rowU pa pc [], blkP rb (.cells #[.bool nm2, .bool en2, .bool cl2, .slice (some ⟨gh, 0, none⟩) n n, .slice (some ⟨gd, 0, none⟩) n n] 53 (0, 0)), rowP 4 1 (.slice (some ⟨gh, 0, none⟩) n n) n (bools hv2), rowP 5 1 (.slice (some ⟨gd, 0, none⟩) n n) n (u8s dt2)] w' from HNX0)
            clear HNX0
            have LO1 := hid (fun (x : World) (hx : Below w.heap.size w x) => HLS.out x hx K2 (by omega))
            rcases Bool.eq_false_or_eq_true (Fil.lost loss K2) with hl1 | hl1
            · rw [hl1] at LO1
              have INV := hid (STP.out.lostI hl1)
              clear hl1
              go_wp2_with (first | (go_at_call 20; refine HNX.out.mono ?_; rintro e w4 ⟨pa, pc, rfl, h4⟩; have HAL := hid (h4.alloc (stabC (srcP_stable _ _) (stabC (rowU_stable _ _ _) (stabC (blkP_stable _ _) (stabC (rowP_stable _ _ _ _ _) (stab1 (rowP_stable _ _ _ _ _)))))) (.cells #[.int .i64 0, .int .i64 0, .int .i64 0, .int .i64 0, .string ⟨#[]⟩, .int .i64 0, .int .i64 0, .slice none 0 0, .int .u32 0, .int .i64 0, .slice none 0 0] 45)); clear h4 HNX) | (refine wpList_agg HAL.out (stabC (srcP_stable _ _) (stabC (rowU_stable _ _ _) (stabC (blkP_stable _ _) (stabC (rowP_stable _ _ _ _ _) (stab1 (rowP_stable _ _ _ _ _)))))) rfl (.tmp 13) (.tmp 65) 45 rfl #[.int .i64 7, .int .i64 s1.src, .int .i64 s1.num, .int .i64 0, .string ⟨#[]⟩, .int .i64 0, .int .i64 0, .slice none 0 0, .int .u32 0, .int .i64 0, .slice none 0 0] rfl rfl sizePdu rfl rfl ?_; intro w5 h5; have H5 := hid h5; clear h5 HAL) | (go_at_call 23; refine (LO1.out _ H5.out.below).mono ?_; rintro e w6 ⟨rfl, hb⟩; have H6 := hid (H5.out.quiet (stabC (blkP_stable _ _) (stabC (srcP_stable _ _) (stabC (rowU_stable _ _ _) (stabC (blkP_stable _ _) (stabC (rowP_stable _ _ _ _ _) (stab1 (rowP_stable _ _ _ _ _))))))) hb); clear hb LO1 H5; skip))
              go_roundw
              case rel => exact ⟨K2 + 1, I + 1, s3, nm2, en2, cl2, hv2, dt2, by go_num, by go_num, by omega, hid (by have a := STP.out.less; have b := HLF.out; rw [← HNN.out] at a; omega), hid INV.out, (Sts.back6 H6.out)⟩
              case measure => (simp [intOf]; try omega)
            · rw [hl1] at LO1
              have INV := hid (show Fil.Inv data loss N s3 ⟨nm2, en2, true, hv2, dt2⟩ (K2 + 1) from (STP.out.gotI (by simp)))
              clear hl1
              go_wp2_with (first | (go_at_call 20; refine HNX.out.mono ?_; rintro e w4 ⟨pa, pc, rfl, h4⟩; have HAL := hid (h4.alloc (stabC (srcP_stable _ _) (stabC (rowU_stable _ _ _) (stabC (blkP_stable _ _) (stabC (rowP_stable _ _ _ _ _) (stab1 (rowP_stable _ _ _ _ _)))))) (.cells #[.int .i64 0, .int .i64 0, .int .i64 0, .int .i64 0, .string ⟨#[]⟩, .int .i64 0, .int .i64 0, .slice none 0 0, .int .u32 0, .int .i64 0, .slice none 0 0] 45)); clear h4 HNX) | (refine wpList_agg HAL.out (stabC (srcP_stable _ _) (stabC (rowU_stable _ _ _) (stabC (blkP_stable _ _) (stabC (rowP_stable _ _ _ _ _) (stab1 (rowP_stable _ _ _ _ _)))))) rfl (.tmp 13) (.tmp 65) 45 rfl #[.int .i64 7, .int .i64 s1.src, .int .i64 s1.num, .int .i64 0, .string ⟨#[]⟩, .int .i64 0, .int .i64 0, .slice none 0 0, .int .u32 0, .int .i64 0, .slice none 0 0] rfl rfl sizePdu rfl rfl ?_; intro w5 h5; have H5 := hid h5; clear h5 HAL) | (go_at_call 23; refine (LO1.out _ H5.out.below).mono ?_; rintro e w6 ⟨rfl, hb⟩; have H6 := hid (H5.out.quiet (stabC (blkP_stable _ _) (stabC (srcP_stable _ _) (stabC (rowU_stable _ _ _) (stabC (blkP_stable _ _) (stabC (rowP_stable _ _ _ _ _) (stab1 (rowP_stable _ _ _ _ _))))))) hb); clear hb LO1 H5; skip) | (refine wpList_ldC rfl (.tmp 13) 45 rfl rfl (.agg #[.int .i64 7, .int .i64 s1.src, .int .i64 s1.num, .int .i64 0, .string ⟨#[]⟩, .int .i64 0, .int .i64 0, .slice none 0 0, .int .u32 0, .int .i64 0, .slice none 0 0]) (ldPdu rfl H6.out) ?_) | (go_at_call 24; refine (cTakeDone (stabC (blkP_stable _ _) (stabC (srcP_stable _ _) (stab1 (rowU_stable _ _ _)))) rb gh gd n n n nm2 en2 cl2 hv2 dt2 (Sts.fore6 H6.out) s1.src s1.num 0 0 0 0 ⟨#[]⟩ 0).mono ?_; rintro e w7 ⟨rfl, h7⟩; have H7 := hid (Sts.back6' h7); clear h7 H6))
              go_roundw
              case rel => exact ⟨K2 + 1, I + 1, s3, nm2, en2, true, hv2, dt2, by go_num, by go_num, by omega, hid (by have a := STP.out.less; have b := HLF.out; rw [← HNN.out] at a; omega), hid INV.out, H7.out⟩
              case measure => (simp [intOf]; try omega)
          | head =>
            have STP := hid (Fil.step1 HI2.out (by omega) (by rw [← HNN.out]; exact hn5) (by rw [← HMM.out]; exact hm1) HE.out (by simp))
            have HNX := hid (show Calls Try.prog 20 #[.pointer (some ⟨q1, 0, none⟩), .int .i64 (N : Int)] wr fun e w' => ∃ pa pc, e = .returned (.tuple #[.agg #[.int .i64 1, .int .i64 s1.src, .int .i64 s1.num, .int .i64 s1.cls, .string s1.name, .int .i64 (s1.data.length : Nat), .int .i64 0, .slice none 0 0, .int .u32 0, .int .i64 0, .slice none 0 0], .bool true]) ∧ Sts w [srcP q1 s3, rowU pa pc [], blkP rb (.cells #[.bool nm2, .bool en2, .bool cl2, .slice (some ⟨gh, 0, none⟩) n n, .slice (some ⟨gd, 0, none⟩) n n] 53 (0, 0)), rowP 4 1 (.slice (some ⟨gh, 0, none⟩) n n) n (bools hv2), rowP 5 1 (.slice (some ⟨gd, 0, none⟩) n n) n (u8s dt2)] w' from HNX0)
            clear HNX0
            have LO1 := hid (fun (x : World) (hx : Below w.heap.size w x) => HLS.out x hx K2 (by omega))
            rcases Bool.eq_false_or_eq_true (Fil.lost loss K2) with hl1 | hl1
            · rw [hl1] at LO1
              have INV := hid (STP.out.lostI hl1)
              clear hl1
              go_wp2_with (first | (go_at_call 20; refine HNX.out.mono ?_; rintro e w4 ⟨pa, pc, rfl, h4⟩; have HAL := hid (h4.alloc (stabC (srcP_stable _ _) (stabC (rowU_stable _ _ _) (stabC (blkP_stable _ _) (stabC (rowP_stable _ _ _ _ _) (stab1 (rowP_stable _ _ _ _ _)))))) (.cells #[.int .i64 0, .int .i64 0, .int .i64 0, .int .i64 0, .string ⟨#[]⟩, .int .i64 0, .int .i64 0, .slice none 0 0, .int .u32 0, .int .i64 0, .slice none 0 0] 45)); clear h4 HNX) | (refine wpList_agg HAL.out (stabC (srcP_stable _ _) (stabC (rowU_stable _ _ _) (stabC (blkP_stable _ _) (stabC (rowP_stable _ _ _ _ _) (stab1 (rowP_stable _ _ _ _ _)))))) rfl (.tmp 13) (.tmp 65) 45 rfl #[.int .i64 1, .int .i64 s1.src, .int .i64 s1.num, .int .i64 s1.cls, .string s1.name, .int .i64 (s1.data.length : Nat), .int .i64 0, .slice none 0 0, .int .u32 0, .int .i64 0, .slice none 0 0] rfl rfl sizePdu rfl rfl ?_; intro w5 h5; have H5 := hid h5; clear h5 HAL) | (go_at_call 23; refine (LO1.out _ H5.out.below).mono ?_; rintro e w6 ⟨rfl, hb⟩; have H6 := hid (H5.out.quiet (stabC (blkP_stable _ _) (stabC (srcP_stable _ _) (stabC (rowU_stable _ _ _) (stabC (blkP_stable _ _) (stabC (rowP_stable _ _ _ _ _) (stab1 (rowP_stable _ _ _ _ _))))))) hb); clear hb LO1 H5; skip))
              go_roundw
              case rel => exact ⟨K2 + 1, I + 1, s3, nm2, en2, cl2, hv2, dt2, by go_num, by go_num, by omega, hid (by have a := STP.out.less; have b := HLF.out; rw [← HNN.out] at a; omega), hid INV.out, (Sts.back6 H6.out)⟩
              case measure => (simp [intOf]; try omega)
            · rw [hl1] at LO1
              have INV := hid (show Fil.Inv data loss N s3 ⟨true, en2, cl2, hv2, dt2⟩ (K2 + 1) from (STP.out.gotI (by simp)))
              clear hl1
              go_wp2_with (first | (go_at_call 20; refine HNX.out.mono ?_; rintro e w4 ⟨pa, pc, rfl, h4⟩; have HAL := hid (h4.alloc (stabC (srcP_stable _ _) (stabC (rowU_stable _ _ _) (stabC (blkP_stable _ _) (stabC (rowP_stable _ _ _ _ _) (stab1 (rowP_stable _ _ _ _ _)))))) (.cells #[.int .i64 0, .int .i64 0, .int .i64 0, .int .i64 0, .string ⟨#[]⟩, .int .i64 0, .int .i64 0, .slice none 0 0, .int .u32 0, .int .i64 0, .slice none 0 0] 45)); clear h4 HNX) | (refine wpList_agg HAL.out (stabC (srcP_stable _ _) (stabC (rowU_stable _ _ _) (stabC (blkP_stable _ _) (stabC (rowP_stable _ _ _ _ _) (stab1 (rowP_stable _ _ _ _ _)))))) rfl (.tmp 13) (.tmp 65) 45 rfl #[.int .i64 1, .int .i64 s1.src, .int .i64 s1.num, .int .i64 s1.cls, .string s1.name, .int .i64 (s1.data.length : Nat), .int .i64 0, .slice none 0 0, .int .u32 0, .int .i64 0, .slice none 0 0] rfl rfl sizePdu rfl rfl ?_; intro w5 h5; have H5 := hid h5; clear h5 HAL) | (go_at_call 23; refine (LO1.out _ H5.out.below).mono ?_; rintro e w6 ⟨rfl, hb⟩; have H6 := hid (H5.out.quiet (stabC (blkP_stable _ _) (stabC (srcP_stable _ _) (stabC (rowU_stable _ _ _) (stabC (blkP_stable _ _) (stabC (rowP_stable _ _ _ _ _) (stab1 (rowP_stable _ _ _ _ _))))))) hb); clear hb LO1 H5; skip) | (refine wpList_ldC rfl (.tmp 13) 45 rfl rfl (.agg #[.int .i64 1, .int .i64 s1.src, .int .i64 s1.num, .int .i64 s1.cls, .string s1.name, .int .i64 (s1.data.length : Nat), .int .i64 0, .slice none 0 0, .int .u32 0, .int .i64 0, .slice none 0 0]) (ldPdu rfl H6.out) ?_) | (go_at_call 24; refine (cTakeHead (stabC (blkP_stable _ _) (stabC (srcP_stable _ _) (stab1 (rowU_stable _ _ _)))) rb gh gd n n n nm2 en2 cl2 hv2 dt2 (Sts.fore6 H6.out) s1.src s1.num s1.cls (s1.data.length : Nat) 0 0 s1.name 0).mono ?_; rintro e w7 ⟨rfl, h7⟩; have H7 := hid (Sts.back6' h7); clear h7 H6))
              go_roundw
              case rel => exact ⟨K2 + 1, I + 1, s3, true, en2, cl2, hv2, dt2, by go_num, by go_num, by omega, hid (by have a := STP.out.less; have b := HLF.out; rw [← HNN.out] at a; omega), hid INV.out, H7.out⟩
              case measure => (simp [intOf]; try omega)
          | eof c =>
            have STP := hid (Fil.step1 HI2.out (by omega) (by rw [← HNN.out]; exact hn5) (by rw [← HMM.out]; exact hm1) HE.out (by simp))
            have HNX := hid (show Calls Try.prog 20 #[.pointer (some ⟨q1, 0, none⟩), .int .i64 (N : Int)] wr fun e w' => ∃ pa pc, e = .returned (.tuple #[.agg #[.int .i64 3, .int .i64 s1.src, .int .i64 s1.num, .int .i64 s1.cls, .string ⟨#[]⟩, .int .i64 (s1.data.length : Nat), .int .i64 0, .slice none 0 0, .int .u32 (Fil.sumV s1.data : Nat), .int .i64 c, .slice none 0 0], .bool true]) ∧ Sts w [srcP q1 s3, rowU pa pc [], blkP rb (.cells #[.bool nm2, .bool en2, .bool cl2, .slice (some ⟨gh, 0, none⟩) n n, .slice (some ⟨gd, 0, none⟩) n n] 53 (0, 0)), rowP 4 1 (.slice (some ⟨gh, 0, none⟩) n n) n (bools hv2), rowP 5 1 (.slice (some ⟨gd, 0, none⟩) n n) n (u8s dt2)] w' from HNX0)
            clear HNX0
            have LO1 := hid (fun (x : World) (hx : Below w.heap.size w x) => HLS.out x hx K2 (by omega))
            rcases Bool.eq_false_or_eq_true (Fil.lost loss K2) with hl1 | hl1
            · rw [hl1] at LO1
              have INV := hid (STP.out.lostI hl1)
              clear hl1
              go_wp2_with (first | (go_at_call 20; refine HNX.out.mono ?_; rintro e w4 ⟨pa, pc, rfl, h4⟩; have HAL := hid (h4.alloc (stabC (srcP_stable _ _) (stabC (rowU_stable _ _ _) (stabC (blkP_stable _ _) (stabC (rowP_stable _ _ _ _ _) (stab1 (rowP_stable _ _ _ _ _)))))) (.cells #[.int .i64 0, .int .i64 0, .int .i64 0, .int .i64 0, .string ⟨#[]⟩, .int .i64 0, .int .i64 0, .slice none 0 0, .int .u32 0, .int .i64 0, .slice none 0 0] 45)); clear h4 HNX) | (refine wpList_agg HAL.out (stabC (srcP_stable _ _) (stabC (rowU_stable _ _ _) (stabC (blkP_stable _ _) (stabC (rowP_stable _ _ _ _ _) (stab1 (rowP_stable _ _ _ _ _)))))) rfl (.tmp 13) (.tmp 65) 45 rfl #[.int .i64 3, .int .i64 s1.src, .int .i64 s1.num, .int .i64 s1.cls, .string ⟨#[]⟩, .int .i64 (s1.data.length : Nat), .int .i64 0, .slice none 0 0, .int .u32 (Fil.sumV s1.data : Nat), .int .i64 c, .slice none 0 0] rfl rfl sizePdu rfl rfl ?_; intro w5 h5; have H5 := hid h5; clear h5 HAL) | (go_at_call 23; refine (LO1.out _ H5.out.below).mono ?_; rintro e w6 ⟨rfl, hb⟩; have H6 := hid (H5.out.quiet (stabC (blkP_stable _ _) (stabC (srcP_stable _ _) (stabC (rowU_stable _ _ _) (stabC (blkP_stable _ _) (stabC (rowP_stable _ _ _ _ _) (stab1 (rowP_stable _ _ _ _ _))))))) hb); clear hb LO1 H5; skip))
              go_roundw
              case rel => exact ⟨K2 + 1, I + 1, s3, nm2, en2, cl2, hv2, dt2, by go_num, by go_num, by omega, hid (by have a := STP.out.less; have b := HLF.out; rw [← HNN.out] at a; omega), hid INV.out, (Sts.back6 H6.out)⟩
              case measure => (simp [intOf]; try omega)
            · rw [hl1] at LO1
              clear hl1
              have LO2 := hid (fun (x : World) (hx : Below w.heap.size w x) => HLS.out x hx (K2 + 1) (by omega))
              rcases Bool.eq_false_or_eq_true (Fil.lost loss (K2 + 1)) with hl2 | hl2
              · rw [hl2] at LO2
                have INV := hid (STP.out.eofI ⟨c, rfl⟩ hl2)
                clear hl2
                go_wp2_with (first | (go_at_call 20; refine HNX.out.mono ?_; rintro e w4 ⟨pa, pc, rfl, h4⟩; have HAL := hid (h4.alloc (stabC (srcP_stable _ _) (stabC (rowU_stable _ _ _) (stabC (blkP_stable _ _) (stabC (rowP_stable _ _ _ _ _) (stab1 (rowP_stable _ _ _ _ _)))))) (.cells #[.int .i64 0, .int .i64 0, .int .i64 0, .int .i64 0, .string ⟨#[]⟩, .int .i64 0, .int .i64 0, .slice none 0 0, .int .u32 0, .int .i64 0, .slice none 0 0] 45)); clear h4 HNX) | (refine wpList_agg HAL.out (stabC (srcP_stable _ _) (stabC (rowU_stable _ _ _) (stabC (blkP_stable _ _) (stabC (rowP_stable _ _ _ _ _) (stab1 (rowP_stable _ _ _ _ _)))))) rfl (.tmp 13) (.tmp 65) 45 rfl #[.int .i64 3, .int .i64 s1.src, .int .i64 s1.num, .int .i64 s1.cls, .string ⟨#[]⟩, .int .i64 (s1.data.length : Nat), .int .i64 0, .slice none 0 0, .int .u32 (Fil.sumV s1.data : Nat), .int .i64 c, .slice none 0 0] rfl rfl sizePdu rfl rfl ?_; intro w5 h5; have H5 := hid h5; clear h5 HAL) | (go_at_call 23; refine (LO1.out _ H5.out.below).mono ?_; rintro e w6 ⟨rfl, hb⟩; have H6 := hid (H5.out.quiet (stabC (blkP_stable _ _) (stabC (srcP_stable _ _) (stabC (rowU_stable _ _ _) (stabC (blkP_stable _ _) (stabC (rowP_stable _ _ _ _ _) (stab1 (rowP_stable _ _ _ _ _))))))) hb); clear hb LO1 H5; skip) | (refine wpList_ldC rfl (.tmp 13) 45 rfl rfl (.agg #[.int .i64 3, .int .i64 s1.src, .int .i64 s1.num, .int .i64 s1.cls, .string ⟨#[]⟩, .int .i64 (s1.data.length : Nat), .int .i64 0, .slice none 0 0, .int .u32 (Fil.sumV s1.data : Nat), .int .i64 c, .slice none 0 0]) (ldPdu rfl H6.out) ?_) | (go_at_call 24; refine (cTakeEof (stabC (blkP_stable _ _) (stabC (srcP_stable _ _) (stab1 (rowU_stable _ _ _)))) rb gh gd n n n nm2 en2 cl2 hv2 dt2 (Sts.fore6 H6.out) s1.src s1.num s1.cls (s1.data.length : Nat) 0 c ⟨#[]⟩ (Fil.sumV s1.data)).mono ?_; rintro e w7 ⟨rfl, h7⟩; have H7 := hid (Sts.back6' h7); clear h7 H6) | (go_at_call 23; refine (LO2.out _ H7.out.below).mono ?_; rintro e w8 ⟨rfl, hb⟩; have H8 := hid (H7.out.quiet (stabC (blkP_stable _ _) (stabC (rowP_stable _ _ _ _ _) (stabC (rowP_stable _ _ _ _ _) (stab1 (srcP_stable _ _))))) hb); clear hb LO2 H7; skip))
                go_roundw
                case rel => exact ⟨K2 + 2, I + 1, s3, nm2, true, cl2, hv2, dt2, by go_num, by go_num, by omega, hid (by have a := STP.out.less; have b := HLF.out; rw [← HNN.out] at a; omega), hid INV.out, H8.out⟩
                case measure => (simp [intOf]; try omega)
              · rw [hl2] at LO2
                have INV := hid (STP.out.ackI ⟨c, rfl⟩)
                clear hl2
                obtain ⟨s4, hs4⟩ : ∃ s4, s4 = ({ s3 with now := (N : Int), acked := true } : Fil.Src) := ⟨_, rfl⟩
                have HTA := hid (show s3.takeV Fil.ackEofP N = (s4, 0) by rw [hs4]; exact Fil.takeAck (Fil.cm_of_ack INV.out.1 (Fil.Good.of_next HI2.out.1.good HE.out) (Fil.now_next HI2.out.1 (by omega) HE.out)) (by omega) (STP.out.eofc c rfl).2)
                have HLA := hid (show Fil.left n N s4 ≤ Fil.left n N s3 by rw [hs4]; exact Fil.left_ack _ _ _ (STP.out.eofc c rfl).2)
                rw [← hs4] at INV
                have HG3 := hid (Fil.Good.of_next HI2.out.1.good HE.out)
                clear hs4
                go_wp2_with (first | (go_at_call 20; refine HNX.out.mono ?_; rintro e w4 ⟨pa, pc, rfl, h4⟩; have HAL := hid (h4.alloc (stabC (srcP_stable _ _) (stabC (rowU_stable _ _ _) (stabC (blkP_stable _ _) (stabC (rowP_stable _ _ _ _ _) (stab1 (rowP_stable _ _ _ _ _)))))) (.cells #[.int .i64 0, .int .i64 0, .int .i64 0, .int .i64 0, .string ⟨#[]⟩, .int .i64 0, .int .i64 0, .slice none 0 0, .int .u32 0, .int .i64 0, .slice none 0 0] 45)); clear h4 HNX) | (refine wpList_agg HAL.out (stabC (srcP_stable _ _) (stabC (rowU_stable _ _ _) (stabC (blkP_stable _ _) (stabC (rowP_stable _ _ _ _ _) (stab1 (rowP_stable _ _ _ _ _)))))) rfl (.tmp 13) (.tmp 65) 45 rfl #[.int .i64 3, .int .i64 s1.src, .int .i64 s1.num, .int .i64 s1.cls, .string ⟨#[]⟩, .int .i64 (s1.data.length : Nat), .int .i64 0, .slice none 0 0, .int .u32 (Fil.sumV s1.data : Nat), .int .i64 c, .slice none 0 0] rfl rfl sizePdu rfl rfl ?_; intro w5 h5; have H5 := hid h5; clear h5 HAL) | (go_at_call 23; refine (LO1.out _ H5.out.below).mono ?_; rintro e w6 ⟨rfl, hb⟩; have H6 := hid (H5.out.quiet (stabC (blkP_stable _ _) (stabC (srcP_stable _ _) (stabC (rowU_stable _ _ _) (stabC (blkP_stable _ _) (stabC (rowP_stable _ _ _ _ _) (stab1 (rowP_stable _ _ _ _ _))))))) hb); clear hb LO1 H5; skip) | (refine wpList_ldC rfl (.tmp 13) 45 rfl rfl (.agg #[.int .i64 3, .int .i64 s1.src, .int .i64 s1.num, .int .i64 s1.cls, .string ⟨#[]⟩, .int .i64 (s1.data.length : Nat), .int .i64 0, .slice none 0 0, .int .u32 (Fil.sumV s1.data : Nat), .int .i64 c, .slice none 0 0]) (ldPdu rfl H6.out) ?_) | (go_at_call 24; refine (cTakeEof (stabC (blkP_stable _ _) (stabC (srcP_stable _ _) (stab1 (rowU_stable _ _ _)))) rb gh gd n n n nm2 en2 cl2 hv2 dt2 (Sts.fore6 H6.out) s1.src s1.num s1.cls (s1.data.length : Nat) 0 c ⟨#[]⟩ (Fil.sumV s1.data)).mono ?_; rintro e w7 ⟨rfl, h7⟩; have H7 := hid (Sts.back6' h7); clear h7 H6) | (go_at_call 23; refine (LO2.out _ H7.out.below).mono ?_; rintro e w8 ⟨rfl, hb⟩; have H8 := hid (H7.out.quiet (stabC (blkP_stable _ _) (stabC (rowP_stable _ _ _ _ _) (stabC (rowP_stable _ _ _ _ _) (stab1 (srcP_stable _ _))))) hb); clear hb LO2 H7; skip) | (go_at_call 22; refine (cIdC _).mono ?_; rintro e w9 ⟨rfl, hb⟩; have H9 := hid (H8.out.quiet (stabC (blkP_stable _ _) (stabC (rowP_stable _ _ _ _ _) (stabC (rowP_stable _ _ _ _ _) (stab1 (srcP_stable _ _))))) hb); clear hb H8) | (go_at_call 25; refine (cTake (stabC (blkP_stable _ _) (stabC (rowP_stable _ _ _ _ _) (stab1 (rowP_stable _ _ _ _ _)))) q1 s3 (Sts.rot H9.out) HG3.out Fil.ackEofP (N : Int) (by decide) (by decide) (by decide) (fun A y _ => RdR.nil y)).mono ?_; rintro e w10 ⟨he10, h10⟩; rw [HTA.out] at he10 h10; subst he10; have H10 := hid (Sts.rot' h10); clear h10 H9))
                go_roundw
                case rel => exact ⟨K2 + 2, I + 1, s4, nm2, true, cl2, hv2, dt2, by go_num, by go_num, by omega, hid (by have a := STP.out.less; have b := HLF.out; have z := HLA.out; rw [← HNN.out] at a; omega), hid INV.out, H10.out⟩
                case measure => (simp [intOf]; try omega)
          | piece f t =>
            have STP := hid (Fil.step1 HI2.out (by omega) (by rw [← HNN.out]; exact hn5) (by rw [← HMM.out]; exact hm1) HE.out (by simp))
            have hft := STP.out.piece f t rfl
            rw [← HNN.out] at hft
            obtain ⟨d, hdd⟩ : ∃ d, d = (s1.data.drop f).take (t - f) := ⟨_, rfl⟩
            obtain ⟨dl, hdl⟩ : ∃ dl, dl = t - f := ⟨_, rfl⟩
            have HDL := hid (show d.length = dl by rw [hdd, List.length_take, List.length_drop, HSD.out, ← HNN.out, hdl]; omega)
            have hfd : f + dl ≤ n := by omega
            have hd1 : 1 ≤ dl := by omega
            have HHV := hid (show hv2.length = n by rw [HI2.out.1.hl, HNN.out])
            have HDT := hid (show dt2.length = n by rw [HI2.out.1.dl, HNN.out])
            have HB8 := hid (show ∀ x ∈ d, x < 256 from fun x hx => HD.out.2 x (by rw [hdd, HSD.out] at hx; exact List.mem_of_mem_drop (List.mem_of_mem_take hx)))
            have HTU := hid (show (⟨nm2, en2, cl2, hv2, dt2⟩ : Fil.Rcv).takeU s2 (.piece f t) = ⟨nm2, en2, cl2, Fil.ov hv2 f (fun _ => true) dl, Fil.ov dt2 f (fun i => d.getD i 0) dl⟩ by
              show (⟨nm2, en2, cl2, Fil.ov hv2 f (fun _ => true) (t - f), Fil.ov dt2 f (fun i => s2.data.getD (f + i) 0) (t - f)⟩ : Fil.Rcv) = _
              rw [← hdl, Fil.ov_congr dt2 f (g' := fun i => d.getD i 0) dl fun i hi => by rw [hdd, Fil.sub_getD _ _ _ _ (by omega), HS1.out]])
            have HRU := hid (fun pb pc => show rowU (some ⟨pb, 0, none⟩) pc d = rowP 5 1 (.slice (some ⟨pb, 0, none⟩) dl pc) dl (u8s d) by unfold rowU; rw [HDL.out])
            have HUL := hid (show (u8s d).length = dl by rw [u8s_len, HDL.out])
            have HMEM := hid (fun (pb pc : Nat) (X Y : HProp) => show rowP 5 1 (.slice (some ⟨pb, 0, none⟩) dl pc) dl (u8s d) ∈ [X, Y, rowU (some ⟨pb, 0, none⟩) pc d] from by
              rw [HRU.out]
              exact List.mem_cons_of_mem _ (List.mem_cons_of_mem _ (List.mem_singleton.2 rfl)))
            have HNX := hid (show Calls Try.prog 20 #[.pointer (some ⟨q1, 0, none⟩), .int .i64 (N : Int)] wr fun e w' => ∃ pb pc, e = .returned (.tuple #[.agg #[.int .i64 2, .int .i64 s1.src, .int .i64 s1.num, .int .i64 0, .string ⟨#[]⟩, .int .i64 0, .int .i64 (f : Nat), .slice (some ⟨pb, 0, none⟩) dl pc, .int .u32 0, .int .i64 0, .slice none 0 0], .bool true]) ∧ Sts w [srcP q1 s3, rowU (some ⟨pb, 0, none⟩) pc d, blkP rb (.cells #[.bool nm2, .bool en2, .bool cl2, .slice (some ⟨gh, 0, none⟩) n n, .slice (some ⟨gd, 0, none⟩) n n] 53 (0, 0)), rowP 4 1 (.slice (some ⟨gh, 0, none⟩) n n) n (bools hv2), rowP 5 1 (.slice (some ⟨gd, 0, none⟩) n n) n (u8s dt2)] w' from HNX0.mono fun e w' ⟨pa, pc, he, h⟩ => by
              have he2 : e = .returned (.tuple #[.agg (Fil.pieceP s1 f pa ((s1.data.drop f).take (t - f)) pc).cells, .bool true]) := he
              have h2 : Sts w [srcP q1 s3, rowU pa pc ((s1.data.drop f).take (t - f)), blkP rb (.cells #[.bool nm2, .bool en2, .bool cl2, .slice (some ⟨gh, 0, none⟩) n n, .slice (some ⟨gd, 0, none⟩) n n] 53 (0, 0)), rowP 4 1 (.slice (some ⟨gh, 0, none⟩) n n) n (bools hv2), rowP 5 1 (.slice (some ⟨gd, 0, none⟩) n n) n (u8s dt2)] w' := h
              rw [← hdd] at he2 h2
              rcases (Sts.rowOwn h2.swap).2 with ⟨hv, _⟩ | ⟨g, cap, cur, hv, _⟩
              · injection hv with _ hv _
                rw [HDL.out] at hv
                omega
              · injection hv with hv _ _
                subst hv
                refine ⟨g, pc, ?_, h2⟩
                rw [he2]
                show Ending.returned (.tuple #[.agg #[.int .i64 2, .int .i64 s1.src, .int .i64 s1.num, .int .i64 0, .string ⟨#[]⟩, .int .i64 0, .int .i64 (f : Nat), .slice (some ⟨g, 0, none⟩) d.length pc, .int .u32 0, .int .i64 0, .slice none 0 0], .bool true]) = _
                rw [HDL.out])
            clear hdd hdl HNX0
            have LO1 := hid (fun (x : World) (hx : Below w.heap.size w x) => HLS.out x hx K2 (by omega))
            rcases Bool.eq_false_or_eq_true (Fil.lost loss K2) with hl1 | hl1
            · rw [hl1] at LO1
              have INV := hid (STP.out.lostI hl1)
              clear hl1
              go_wp2_with (first | (go_at_call 20; refine HNX.out.mono ?_; rintro e w4 ⟨pb, pc, rfl, h4⟩; have HAL := hid (h4.alloc (stabC (srcP_stable _ _) (stabC (rowU_stable _ _ _) (stabC (blkP_stable _ _) (stabC (rowP_stable _ _ _ _ _) (stab1 (rowP_stable _ _ _ _ _)))))) (.cells #[.int .i64 0, .int .i64 0, .int .i64 0, .int .i64 0, .string ⟨#[]⟩, .int .i64 0, .int .i64 0, .slice none 0 0, .int .u32 0, .int .i64 0, .slice none 0 0] 45)); clear h4 HNX) | (refine wpList_agg HAL.out (stabC (srcP_stable _ _) (stabC (rowU_stable _ _ _) (stabC (blkP_stable _ _) (stabC (rowP_stable _ _ _ _ _) (stab1 (rowP_stable _ _ _ _ _)))))) rfl (.tmp 13) (.tmp 65) 45 rfl #[.int .i64 2, .int .i64 s1.src, .int .i64 s1.num, .int .i64 0, .string ⟨#[]⟩, .int .i64 0, .int .i64 (f : Nat), .slice (some ⟨pb, 0, none⟩) dl pc, .int .u32 0, .int .i64 0, .slice none 0 0] rfl rfl sizePdu rfl rfl ?_; intro w5 h5; have H5 := hid h5; clear h5 HAL) | (go_at_call 23; refine (LO1.out _ H5.out.below).mono ?_; rintro e w6 ⟨rfl, hb⟩; have H6 := hid (H5.out.quiet (stabC (blkP_stable _ _) (stabC (srcP_stable _ _) (stabC (rowU_stable _ _ _) (stabC (blkP_stable _ _) (stabC (rowP_stable _ _ _ _ _) (stab1 (rowP_stable _ _ _ _ _))))))) hb); clear hb LO1 H5; skip))
              go_roundw
              case rel => exact ⟨K2 + 1, I + 1, s3, nm2, en2, cl2, hv2, dt2, by go_num, by go_num, by omega, hid (by have a := STP.out.less; have b := HLF.out; rw [← HNN.out] at a; omega), hid INV.out, (Sts.back6 H6.out)⟩
              case measure => (simp [intOf]; try omega)
            · rw [hl1] at LO1
              have INV := hid (show Fil.Inv data loss N s3 ⟨nm2, en2, cl2, (Fil.ov hv2 f (fun _ => true) dl), (Fil.ov dt2 f (fun i => d.getD i 0) dl)⟩ (K2 + 1) from (by have h := STP.out.gotI (by simp); rw [HTU.out] at h; exact h))
              clear hl1
              go_wp2_with (first | (go_at_call 20; refine HNX.out.mono ?_; rintro e w4 ⟨pb, pc, rfl, h4⟩; have HAL := hid (h4.alloc (stabC (srcP_stable _ _) (stabC (rowU_stable _ _ _) (stabC (blkP_stable _ _) (stabC (rowP_stable _ _ _ _ _) (stab1 (rowP_stable _ _ _ _ _)))))) (.cells #[.int .i64 0, .int .i64 0, .int .i64 0, .int .i64 0, .string ⟨#[]⟩, .int .i64 0, .int .i64 0, .slice none 0 0, .int .u32 0, .int .i64 0, .slice none 0 0] 45)); clear h4 HNX) | (refine wpList_agg HAL.out (stabC (srcP_stable _ _) (stabC (rowU_stable _ _ _) (stabC (blkP_stable _ _) (stabC (rowP_stable _ _ _ _ _) (stab1 (rowP_stable _ _ _ _ _)))))) rfl (.tmp 13) (.tmp 65) 45 rfl #[.int .i64 2, .int .i64 s1.src, .int .i64 s1.num, .int .i64 0, .string ⟨#[]⟩, .int .i64 0, .int .i64 (f : Nat), .slice (some ⟨pb, 0, none⟩) dl pc, .int .u32 0, .int .i64 0, .slice none 0 0] rfl rfl sizePdu rfl rfl ?_; intro w5 h5; have H5 := hid h5; clear h5 HAL) | (go_at_call 23; refine (LO1.out _ H5.out.below).mono ?_; rintro e w6 ⟨rfl, hb⟩; have H6 := hid (H5.out.quiet (stabC (blkP_stable _ _) (stabC (srcP_stable _ _) (stabC (rowU_stable _ _ _) (stabC (blkP_stable _ _) (stabC (rowP_stable _ _ _ _ _) (stab1 (rowP_stable _ _ _ _ _))))))) hb); clear hb LO1 H5; skip) | (refine wpList_ldC rfl (.tmp 13) 45 rfl rfl (.agg #[.int .i64 2, .int .i64 s1.src, .int .i64 s1.num, .int .i64 0, .string ⟨#[]⟩, .int .i64 0, .int .i64 (f : Nat), .slice (some ⟨pb, 0, none⟩) dl pc, .int .u32 0, .int .i64 0, .slice none 0 0]) (ldPdu rfl H6.out) ?_) | (go_at_call 24; refine (cTakePc (stabC (blkP_stable _ _) (stabC (srcP_stable _ _) (stab1 (rowU_stable _ _ _)))) rb gh gd n n n nm2 en2 cl2 hv2 dt2 (Sts.fore6 H6.out) hn5 HHV.out HDT.out s1.src s1.num 0 0 0 ⟨#[]⟩ 0 f dl pc pb 0 d HDL.out hfd ⟨Rds.row HUL.out (HMEM.out _ _ _ _), HB8.out⟩).mono ?_; rintro e w7 ⟨rfl, h7⟩; have H7 := hid (Sts.back6' h7); clear h7 H6))
              go_roundw
              case rel => exact ⟨K2 + 1, I + 1, s3, nm2, en2, cl2, (Fil.ov hv2 f (fun _ => true) dl), (Fil.ov dt2 f (fun i => d.getD i 0) dl), by go_num, by go_num, by omega, hid (by have a := STP.out.less; have b := HLF.out; rw [← HNN.out] at a; omega), hid INV.out, H7.out⟩
              case measure => (simp [intOf]; try omega)
      · have h4 : s.phase = 4 := by
          by_cases h : s.phase = 4
          · exact h
          · have hN2 : N = 1500 := by
              rcases Nat.lt_or_ge N 1500 with h5 | h5
              · exact absurd ⟨h5, h⟩ hx
              · omega
            subst hN2
            exact Fil.tick_last HI.out
        obtain ⟨hc, hdt, hco⟩ := Fil.over_all HI.out h4
        obtain ⟨hnm, hall⟩ := hc
        have hnm : nm = true := hnm
        have hdt : dt = data := hdt
        subst hnm
        have HALL := hid (show ∀ i, i < n → (bools hv)[i]? = some (.bool true) from fun i hi => by
          have h := hall i (by show i < hv.length; rw [HI.out.1.hl, ← HNN.out]; exact hi)
          have h : hv[i]? = some true := h
          unfold bools; rw [List.getElem?_map, h]; rfl)
        have hst : s.stateV = 4 := by unfold Fil.Src.stateV; rw [if_neg (by rw [HI.out.1.susp]; decide), if_neg (by omega), if_pos h4]
        have HST := hid (fun (x : World) hx => cStateS (W := w) (w := x) q1 s (l := [blkP rb (.cells #[.bool true, .bool en, .bool cl, .slice (some ⟨gh, 0, none⟩) n n, .slice (some ⟨gd, 0, none⟩) n n] 53 (0, 0)), rowP 4 1 (.slice (some ⟨gh, 0, none⟩) n n) n (bools hv), rowP 5 1 (.slice (some ⟨gd, 0, none⟩) n n) n (u8s dt)]) hx)
        have HCO := hid (fun (x : World) hx => cCodeS (W := w) (w := x) q1 s (l := [blkP rb (.cells #[.bool true, .bool en, .bool cl, .slice (some ⟨gh, 0, none⟩) n n, .slice (some ⟨gd, 0, none⟩) n n] 53 (0, 0)), rowP 4 1 (.slice (some ⟨gh, 0, none⟩) n n) n (bools hv), rowP 5 1 (.slice (some ⟨gd, 0, none⟩) n n) n (u8s dt)]) hx)
        rw [hst] at HST
        rw [hco] at HCO
        have hdt := hdt.symm
        subst hdt
        clear hx hall hst hco h4 HI
        rcases Nat.lt_or_ge N 1500 with hN5 | hN5
        · have e0 : decide ((N : Int) < 1500) = true := decide_eq_true (by omega)
          go_wp2_with (first | (go_at_call 17; refine (HST.out _ (Sts.rot HS.out)).mono ?_; rintro e w4 ⟨rfl, rfl⟩))
          go_loopw [15] (fun iv wx => ∃ i : Nat, i ≤ n ∧ iv = .int .i64 i ∧ Sts w [blkP rb (.cells #[.bool true, .bool en, .bool cl, .slice (some ⟨gh, 0, none⟩) n n, .slice (some ⟨gd, 0, none⟩) n n] 53 (0, 0)), rowP 4 1 (.slice (some ⟨gh, 0, none⟩) n n) n (bools hv), rowP 5 1 (.slice (some ⟨gd, 0, none⟩) n n) n (u8s data), srcP q1 s] wx) (fun iv _ => n - (intOf iv).toNat)
          case atStart => exact ⟨0, by omega, rfl, HS.out⟩
          case round =>
            obtain ⟨i, hi, rfl, hSx⟩ := hrel
            clear HS
            have HSx := hid hSx
            clear hSx
            have q0 := (Sts.boxCell HSx.out 0 _ rfl).1
            have q3 := (Sts.boxCell HSx.out 3 _ rfl).1
            have q4 := (Sts.boxCell HSx.out 4 _ rfl).1
            by_cases hlt : i < n
            · have rc := Sts.rowCell HSx.out.swap i hlt (.bool true) (HALL.out i hlt)
              have k1 : (i : Int) < (n : Int) := by omega
              have k0 : (0 : Int) ≤ (i : Int) := by omega
              have d3 : decide ((i : Int) < (n : Int)) = true := decide_eq_true k1
              go_wp2_with fail
              go_roundw
              case rel => exact ⟨i + 1, by omega, by go_num, HSx.out⟩
              case measure => (simp [intOf]; try omega)
            · obtain rfl : i = n := by omega
              have d3 : decide ((i : Int) < (i : Int)) = false := decide_eq_false (by omega)
              clear hlt
              have cv1 : (convert 24 9 (.slice (some ⟨gd, 0, none⟩) i i)).run Try.prog wr = .ok (.string (strB data)) wr := RdB.str (⟨Rd.of_own (Sts.rowOwn (Sts.third HSx.out)) (by rw [u8s_len, HNN.out]), HD.out.2⟩ : RdB wr (.slice (some ⟨gd, 0, none⟩) i i) data) 24 9 5 Try.underlying24 Try.underlying5 Try.underlying9
              have cv2 : (convert 24 9 (.slice da i dc)).run Try.prog wr = .ok (.string (strB data)) wr := RdB.str (HD.out.below HSx.out.below) 24 9 5 Try.underlying24 Try.underlying5 Try.underlying9
              go_wp2_with (first | (go_at_call 17; refine (HST.out _ (Sts.rot HSx.out)).mono ?_; rintro e w4 ⟨rfl, rfl⟩) | (go_at_call 19; refine (HCO.out _ (Sts.rot HSx.out)).mono ?_; rintro e w4 ⟨rfl, rfl⟩) | (go_at_call 14; refine (cLives27 _).mono ?_; rintro e w9 ⟨rfl, hb⟩; have HF := hid (HSx.out.below.trans (hb.mono HSx.out.below.size)); clear hb))
              go_ret
              exact ⟨rfl, HF.out⟩
        · have e0 : decide ((N : Int) < 1500) = false := decide_eq_false (by omega)
          go_wp2_with fail
          go_loopw [15] (fun iv wx => ∃ i : Nat, i ≤ n ∧ iv = .int .i64 i ∧ Sts w [blkP rb (.cells #[.bool true, .bool en, .bool cl, .slice (some ⟨gh, 0, none⟩) n n, .slice (some ⟨gd, 0, none⟩) n n] 53 (0, 0)), rowP 4 1 (.slice (some ⟨gh, 0, none⟩) n n) n (bools hv), rowP 5 1 (.slice (some ⟨gd, 0, none⟩) n n) n (u8s data), srcP q1 s] wx) (fun iv _ => n - (intOf iv).toNat)
          case atStart => exact ⟨0, by omega, rfl, HS.out⟩
          case round =>
            obtain ⟨i, hi, rfl, hSx⟩ := hrel
            clear HS
            have HSx := hid hSx
            clear hSx
            have q0 := (Sts.boxCell HSx.out 0 _ rfl).1
            have q3 := (Sts.boxCell HSx.out 3 _ rfl).1
            have q4 := (Sts.boxCell HSx.out 4 _ rfl).1
            by_cases hlt : i < n
            · have rc := Sts.rowCell HSx.out.swap i hlt (.bool true) (HALL.out i hlt)
              have k1 : (i : Int) < (n : Int) := by omega
              have k0 : (0 : Int) ≤ (i : Int) := by omega
              have d3 : decide ((i : Int) < (n : Int)) = true := decide_eq_true k1
              go_wp2_with fail
              go_roundw
              case rel => exact ⟨i + 1, by omega, by go_num, HSx.out⟩
              case measure => (simp [intOf]; try omega)
            · obtain rfl : i = n := by omega
              have d3 : decide ((i : Int) < (i : Int)) = false := decide_eq_false (by omega)
              clear hlt
              have cv1 : (convert 24 9 (.slice (some ⟨gd, 0, none⟩) i i)).run Try.prog wr = .ok (.string (strB data)) wr := RdB.str (⟨Rd.of_own (Sts.rowOwn (Sts.third HSx.out)) (by rw [u8s_len, HNN.out]), HD.out.2⟩ : RdB wr (.slice (some ⟨gd, 0, none⟩) i i) data) 24 9 5 Try.underlying24 Try.underlying5 Try.underlying9
              have cv2 : (convert 24 9 (.slice da i dc)).run Try.prog wr = .ok (.string (strB data)) wr := RdB.str (HD.out.below HSx.out.below) 24 9 5 Try.underlying24 Try.underlying5 Try.underlying9
              go_wp2_with (first | (go_at_call 17; refine (HST.out _ (Sts.rot HSx.out)).mono ?_; rintro e w4 ⟨rfl, rfl⟩) | (go_at_call 19; refine (HCO.out _ (Sts.rot HSx.out)).mono ?_; rintro e w4 ⟨rfl, rfl⟩) | (go_at_call 14; refine (cLives27 _).mono ?_; rintro e w9 ⟨rfl, hb⟩; have HF := hid (HSx.out.below.trans (hb.mono HSx.out.below.size)); clear hb))
              go_ret
              exact ⟨rfl, HF.out⟩
theorem cmp_all : Calls Try.prog 5 #[.slice da data.length dc, .int .u16 (ch : Int), .slice la loss.length lc] w fun e w' => e = .returned (.bool true) ∧ Below w.heap.size w w' := by
  by_cases h : 1500 < data.length ∨ 100 < loss.length
  · exact cmp_big w da dc data la lc loss ch h
  · exact cmp_main w da dc data la lc loss ch hd hlo hch (by omega) (by omega)
end
end Go.Proofs.Ytfjadhkhmhnccaa
