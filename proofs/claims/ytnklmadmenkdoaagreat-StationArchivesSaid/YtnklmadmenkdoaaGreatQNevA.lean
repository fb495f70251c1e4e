/- The sending end hands out units. The next frame of the sending end. A range over a function that never yields. No program in sight. -/
import Derived.Test.YtnklmadmenkdoaaGreatQSndR
import Derived.RangeFuncNested
import Derived.RangeFuncBound
import Derived.RangeFuncCalls
import Derived.RangeFuncLeaves
import Derived.RangeFuncFrom
import Derived.Shelf.Abstract
import Derived.Shelf.RegionOpen
import Derived.WalkKit
import Derived.OwnWalkIn
import Derived.TacticsInMore
import Derived.LoopNIn
import Derived.LoopIn
set_option linter.unusedVariables false
set_option linter.unusedSimpArgs false
namespace Go.Proofs.YtnklmadmenkdoaaGreat
open Go.RowKit Go.Proofs.Num
section
variable {W w : World} {l : List HProp} (hl : ∀ B ∈ l, Stable B) (fq : Nat) (us : List (List Nat)) (fl fr now tm : Nat)
include hl
set_option maxRecDepth 100000 in
theorem cFopClock {uv : Value} (hs : Sts W (blkP fq (.cells (fopA fl fr now tm uv) 216 (0, 0)) :: l) w) (n : Nat) (h1 : now ≤ n) (h2 : n ≤ 1000000) :
    Calls Tryz.prog 130 #[.pointer (some ⟨fq, 0, none⟩), .int .i64 (n : Int)] w fun e w' => e = .returned (.tuple #[]) ∧ Sts W (blkP fq (.cells (fopA fl fr n tm uv) 216 (0, 0)) :: l) w' := by
  have c12 : w.cell? ⟨fq, 12, none⟩ = some (.int .i64 (now : Int)) := (Sts.boxCell hs 12 _ rfl).1
  have d1 : decide ((n : Int) ≤ 1099511627776) = true := decide_eq_true (by omega)
  have HS := hid hs
  have HL := hid hl
  rcases Nat.lt_or_ge now n with hlt | hge
  · have m1 : (now : Int) < (n : Int) := by omega
    have m2 : decide ((now : Int) < (n : Int)) = true := decide_eq_true m1
    have m3 : max (now : Int) (n : Int) = (n : Int) := by omega
    clear hs hl h1 h2 hlt
    go_enter Tryz.func130, Tryz.ntmps130
    go_wp2_with (refine wpList_cellS HS.out HL.out rfl (.tmp 14) (.tmp 12) 3 rfl 12 (.int .i64 (n : Int)) rfl rfl szInt (show 12 < 15 by decide) rfl ?_; intro w2 h2; have H2 := hid h2; clear h2)
    refine bodyPost_end (results_none rfl _ _ _) rfl ?_
    exact ⟨rfl, H2.out⟩
  · obtain rfl : n = now := by omega
    have m1 : ¬ (n : Int) < (n : Int) := by omega
    have m2 : decide ((n : Int) < (n : Int)) = false := decide_eq_false m1
    have m3 : max (n : Int) (n : Int) = (n : Int) := by omega
    clear hs hl h1 h2 hge
    go_enter Tryz.func130, Tryz.ntmps130
    go_wp2_with (refine wpList_cellS HS.out HL.out rfl (.tmp 14) (.tmp 12) 3 rfl 12 (.int .i64 (n : Int)) rfl rfl szInt (show 12 < 15 by decide) rfl ?_; intro w2 h2; have H2 := hid h2; clear h2)
    refine bodyPost_end (results_none rfl _ _ _) rfl ?_
    exact ⟨rfl, H2.out⟩
omit hl in
set_option maxRecDepth 100000 in
theorem cFopWaiting {ua : Option Addr} {uc : Nat} (hs : Sts W (blkP fq (.cells (fopA fl fr now tm (.slice ua us.length uc)) 216 (0, 0)) :: l) w) (h1 : us.length < 16) :
    Calls Tryz.prog 149 #[.pointer (some ⟨fq, 0, none⟩)] w fun e w' => e = .returned (.bool (decide (fl < us.length))) ∧ ∃ m, w' = w.drewN m := by
  have c3 : w.cell? ⟨fq, 3, none⟩ = some (.int .i64 (fl : Int)) := (Sts.boxCell hs 3 _ rfl).1
  have c0 : w.cell? ⟨fq, 0, none⟩ = some (.int .i64 16) := (Sts.boxCell hs 0 _ rfl).1
  have c1 : w.cell? ⟨fq, 1, none⟩ = some (.slice ua us.length uc) := (Sts.boxCell hs 1 _ rfl).1
  have m1 : min (16 : Int) (us.length : Int) = (us.length : Int) := by omega
  have m2 : decide ((16 : Int) < (us.length : Int)) = false := decide_eq_false (by omega)
  have m3 : decide ((us.length : Int) < 16) = true := decide_eq_true (by omega)
  have m4 : ¬ (16 : Int) ≤ (us.length : Int) := by omega
  have m5 : ¬ (16 : Int) < (us.length : Int) := by omega
  have m6 : (us.length : Int) < 16 := by omega
  have m7 : (us.length : Int) ≤ 16 := by omega
  clear hs h1
  go_enter Tryz.func149, Tryz.ntmps149
  go_wp2_with fail
  go_quiet (fail)
  go_wp2_with fail
  go_ret
  exact ⟨rfl, _, rfl⟩
set_option maxRecDepth 100000 in
set_option maxHeartbeats 4000000 in
theorem cFopTake (hs : Sts W (fopP fq us fl fl now tm :: l) w) (hf : fl < us.length) (h1 : us.length ≤ 16) (hu : ∀ u ∈ us, 1 ≤ u.length ∧ u.length ≤ 1017) :
    Calls Tryz.prog 150 #[.pointer (some ⟨fq, 0, none⟩)] w fun e w' => ∃ ra rc, e = .returned (.tuple #[.int .i64 (fl : Int), .slice ra us[fl].length rc]) ∧ Sts W (fopP fq us (fl + 1) (fl + 1) now tm :: rowP 5 1 (.slice ra us[fl].length rc) us[fl].length (u8s us[fl]) :: l) w' := by
  obtain ⟨uv, vs, h0⟩ := Sts.openF hs
  obtain ⟨ub, uc, hue⟩ := own_pos h0.tail.rowOwn (by omega)
  subst hue
  have hul := hu us[fl] (List.getElem_mem hf)
  obtain ⟨u, hu0⟩ : ∃ u, u = us[fl] := ⟨_, rfl⟩
  rw [← hu0] at hul ⊢
  obtain ⟨v, hv1, hv2, hv3⟩ : ∃ v, vs[fl]? = some v ∧ Rd w v (u8s u) ∧ ∀ c, v = .slice none 0 c → c = 0 := by
    obtain ⟨F, hF⟩ := h0.tail.tail.head
    rw [hu0]
    exact rowsP_rd hF fl hf
  obtain ⟨va, vc, hve⟩ := hv2.eq
  rw [u8s_len] at hve
  have HVR : Hid (∀ y : World, Sts W (rowsP 5 vs us :: l) y → Rd y v (u8s u)) := hid (by
    intro y h
    obtain ⟨F, hF⟩ := h.head
    obtain ⟨v', q1, q2, _⟩ := rowsP_rd hF fl hf
    rw [hv1] at q1
    injection q1 with q1
    rw [← q1, ← hu0] at q2
    exact q2)
  have HVN := hid hv3
  have HV1 := hid hv1
  have HFL := hid hf
  have HUL := hid hul
  have H1 := hid h1
  have HL := hid hl
  have HLU := hid (show ∀ B ∈ rowP 35 1 (.slice (some ⟨ub, 0, none⟩) us.length uc) us.length vs :: rowsP 5 vs us :: l, Stable B from stabC (rowP_stable _ _ _ _ _) (stabC (rowsP_stable _ _ _) hl))
  have H0 := hid h0
  have e1 : wrap64 ((0 : Int) + (fl : Int)) = (fl : Int) := by unfold wrap64; omega
  have e2 : IntKind.i64.wrap (fl : Int) = (fl : Int) := by rw [IntKind.wrap_i64]; omega
  have e3 : (fl : Int).tmod 256 = (fl : Int) := by rw [Int.tmod_eq_emod_of_nonneg (by omega)]; omega
  have e4 : (fl : Int) % 256 = (fl : Int) := by omega
  have e5 : (fl : Int) < (us.length : Int) := by omega
  have e6 : wrap64 ((fl : Int) + 1) = (fl : Int) + 1 := by unfold wrap64; omega
  have e7 : IntKind.i64.wrap ((fl : Int) + 1) = (fl : Int) + 1 := by rw [IntKind.wrap_i64]; omega
  have e8 : max (fl : Int) ((fl : Int) + 1) = (fl : Int) + 1 := by omega
  have e9 : (fl : Int) < (fl : Int) + 1 := by omega
  subst hve
  clear hs h0 hv1 hv2 hv3 h1 hu hul hu0 hl
  go_enter Tryz.func150, Tryz.ntmps150
  go_wp2_with fail
  refine wp_region_ordQ (.pure 0 (.pure 1 (.pure 2 (.pure 3 (.pure 4 (.pure 5 (.pure 6 (.pure 7 (.pure 8 (.pure 9 (.pure 10 (.pure 11 (.pure 12 (.pure 13 (.pure 14 (.pure 15 (.pure 16 (.pure 17 (.pure 18 (.pure 19 (.eff 20 (.pure 21 (.pure 22 .nil))))))))))))))))))))))) (fun y => y.cell? ⟨fq, 1, none⟩ = some (.slice (some ⟨ub, 0, none⟩) us.length uc) ∧ y.cell? ⟨fq, 2, none⟩ = some (.int .i64 0) ∧ y.cell? ⟨fq, 3, none⟩ = some (.int .i64 (fl : Int)) ∧ y.cell? ⟨ub, fl, none⟩ = some (.slice va u.length vc)) (fun y => Sts W (blkP fq (.cells (fopA fl fl now tm (.slice (some ⟨ub, 0, none⟩) us.length uc)) 216 (0, 0)) :: rowP 35 1 (.slice (some ⟨ub, 0, none⟩) us.length uc) us.length vs :: rowsP 5 vs us :: l) y) (by kernel_rfl) (by kernel_rfl) (H0.out.drew (stabC (blkP_stable _ _) HLU.out)) (fun y hy => ⟨(Sts.boxCell hy 1 _ rfl).1, (Sts.boxCell hy 2 _ rfl).1, (Sts.boxCell hy 3 _ rfl).1, Sts.rowCell hy.tail fl HFL.out _ HV1.out⟩) ?_
  iterate 20
    (apply ordq_pure (ho := rfl)
     · go_simp
     · intro x hx; obtain ⟨k1, k2, k3, k4⟩ := hx; go_simp; rfl
     apply ordq_norm
     · go_simp; rfl)
  apply ordq_eff (ho := rfl)
  · go_simp
  intro y hy
  refine eff_call (f := 148) (by go_simp) (cClone8 y _ u (HVR.out y hy.tail.tail) HVN.out (by have := HUL.out; omega)) ?_
  rintro e w3 ⟨r, rfl, hN, -⟩
  have h4 := Sts.new (stabC (blkP_stable _ _) HLU.out) hy hN
  rw [u8s_len] at h4
  obtain ⟨ra, rc, hre⟩ := own_slice h4.rowOwn
  subst hre
  refine ⟨_, rfl, (fun y => y.cell? ⟨fq, 1, none⟩ = some (.slice (some ⟨ub, 0, none⟩) us.length uc) ∧ y.cell? ⟨fq, 2, none⟩ = some (.int .i64 0) ∧ y.cell? ⟨fq, 3, none⟩ = some (.int .i64 (fl : Int)) ∧ y.cell? ⟨ub, fl, none⟩ = some (.slice va u.length vc)), (fun y => Sts W (rowP 5 1 (.slice ra u.length rc) u.length (u8s u) :: blkP fq (.cells (fopA fl fl now tm (.slice (some ⟨ub, 0, none⟩) us.length uc)) 216 (0, 0)) :: rowP 35 1 (.slice (some ⟨ub, 0, none⟩) us.length uc) us.length vs :: rowsP 5 vs us :: l) y), h4, (fun y hy => ⟨(Sts.boxCell hy.tail 1 _ rfl).1, (Sts.boxCell hy.tail 2 _ rfl).1, (Sts.boxCell hy.tail 3 _ rfl).1, Sts.rowCell hy.tail.tail fl HFL.out _ HV1.out⟩), (fun _ h => h), ?_⟩
  clear h4 hN hy y
  apply ordq_norm
  · go_simp; rfl
  iterate 2
    (apply ordq_pure (ho := rfl)
     · go_simp
     · intro x hx; go_simp; rfl
     apply ordq_norm
     · go_simp; rfl)
  refine ordq_nil fun z hz => ?_
  have HZ := hid hz.swap
  have z3 : z.cell? ⟨fq, 3, none⟩ = some (.int .i64 (fl : Int)) := (Sts.boxCell hz.tail 3 _ rfl).1
  have HLD := hid (show ∀ B ∈ rowP 5 1 (.slice ra u.length rc) u.length (u8s u) :: rowP 35 1 (.slice (some ⟨ub, 0, none⟩) us.length uc) us.length vs :: rowsP 5 vs us :: l, Stable B from stabC (rowP_stable _ _ _ _ _) HLU.out)
  clear hz
  go_wp2_with (refine wpList_cellS HZ.out HLD.out rfl (.tmp 31) (.tmp 29) 3 rfl 3 (.int .i64 ((fl : Int) + 1)) rfl rfl szInt (show 3 < 15 by decide) rfl ?_; intro w5 h5
               have H5 : Hid (Sts W (blkP fq (.cells (fopA (fl + 1) fl now tm (.slice (some ⟨ub, 0, none⟩) us.length uc)) 216 (0, 0)) :: rowP 5 1 (.slice ra u.length rc) u.length (u8s u) :: rowP 35 1 (.slice (some ⟨ub, 0, none⟩) us.length uc) us.length vs :: rowsP 5 vs us :: l) w5) := hid h5
               clear h5)
  refine wp_region_ordQS (fun i => i == 12) (.pure 0 (.pure 1 (.pure 2 (.pure 3 (.pure 4 (.pure 5 (.pure 6 (.pure 7 (.pure 8 (.pure 9 (.pure 10 (.pure 11 (.eff 12 .nil))))))))))))) (fun y => y.cell? ⟨fq, 3, none⟩ = some (.int .i64 ((fl : Int) + 1)) ∧ y.cell? ⟨fq, 4, none⟩ = some (.int .i64 (fl : Int))) (fun y => Sts W (blkP fq (.cells (fopA (fl + 1) fl now tm (.slice (some ⟨ub, 0, none⟩) us.length uc)) 216 (0, 0)) :: rowP 5 1 (.slice ra u.length rc) u.length (u8s u) :: rowP 35 1 (.slice (some ⟨ub, 0, none⟩) us.length uc) us.length vs :: rowsP 5 vs us :: l) y) (by kernel_rfl) (by kernel_rfl) (H5.out.drew (stabC (blkP_stable _ _) HLD.out)) (fun y hy => ⟨(Sts.boxCell hy 3 _ rfl).1, (Sts.boxCell hy 4 _ rfl).1⟩) ?_
  iterate 12
    (apply ordq_pure (ho := rfl)
     · go_simp
     · intro x hx; obtain ⟨k1, k2⟩ := hx; go_simp; rfl
     apply ordq_norm
     · go_simp; rfl)
  apply ordq_eff (ho := rfl)
  · go_simp
  intro y hy
  refine effS_cellS rfl hy HLD.out (.tmp 43) (.tmp 41) 3 rfl 4 (.int .i64 ((fl : Int) + 1)) ?_ ?_ szInt (show 4 < 15 by decide) rfl (fun y' => Sts W (fopP fq us (fl + 1) (fl + 1) now tm :: rowP 5 1 (.slice ra u.length rc) u.length (u8s u) :: l) y') ?_ ?_
  · go_simp
  · go_simp
  · intro w' h7
    replace h7 : Sts W (blkP fq (.cells (fopA (fl + 1) (fl + 1) now tm (.slice (some ⟨ub, 0, none⟩) us.length uc)) 216 (0, 0)) :: rowP 5 1 (.slice ra u.length rc) u.length (u8s u) :: rowP 35 1 (.slice (some ⟨ub, 0, none⟩) us.length uc) us.length vs :: rowsP 5 vs us :: l) w' := h7
    exact Sts.closeF (uv := .slice (some ⟨ub, 0, none⟩) us.length uc) (vs := vs) ((h7.perm (List.perm_append_comm (l₁ := [_, _]) (l₂ := [_, _]) |>.append_right l)).perm (((List.perm_append_comm (l₁ := [_, _]) (l₂ := [_])).trans (List.Perm.refl _)).append_right (_ :: l)))
  apply ordq_norm
  · go_simp; rfl
  refine ordq_nil fun z hz => ?_
  have HZ2 := hid hz
  clear hz hy y
  go_wp2_with fail
  go_ret2
  exact ⟨ra, rc, rfl, HZ2.out⟩
end
end Go.Proofs.YtnklmadmenkdoaaGreat
namespace Go.Proofs.YtnklmadmenkdoaaGreat
open Go.RowKit Go.Proofs.Num
theorem below_drewN {B : Nat} {a w : World} (h : Below B a w) (n : Nat) : Below B a (w.drewN n) := ⟨h.os, h.tape, h.output, h.size, h.block⟩
def zeroTc : Array Value := #[.bool false, .bool false, .int .i64 0, .int .i64 0, .int .i64 0, .slice none 0 0]
set_option maxRecDepth 100000 in
theorem szTc : ∀ w, (Go.sizeOf 46).run Tryz.prog w = .ok 6 w := fun w => by first | rfl | simp [go_sem] | kernel_rfl
theorem eff_aggS {L : Prop} {o : Oper} {a : Act} {K : Act → WP → WP → Prop} {W y : World} {l : List HProp} {b : Nat} {c : Array Value} {t0 : TypeId}
    (hS : Sts W (blkP b (.cells c t0 (0, 0)) :: l) y) (hl : ∀ B ∈ l, Stable B) (p v : Operand) (t : TypeId) (ho : o.op = .store t p v) (vs : Array Value)
    (hp : a.eval p = .pointer (some ⟨b, 0, none⟩)) (hv : a.eval v = .agg vs) (hz : ∀ w, (Go.sizeOf t).run Tryz.prog w = .ok vs.size w) (hc : c.size = vs.size) (h1 : vs.toList.all (fun v => v.oneCell') = true) (D : WP)
    (hD : ∀ z, Sts W (blkP b (.cells vs t0 (0, 0)) :: l) z → D z)
    (hk : K (a.put o.dst undef) D (fun z => Sts W (blkP b (.cells vs t0 (0, 0)) :: l) z)) : effUpon Tryz.prog L o.dst a D K ((execOp a.eval o).run Tryz.prog y) := by
  obtain ⟨w', hr, hf⟩ := exec_aggS (o := o) (a := a) hS hl p v t ho vs hp hv hz hc  h1
  exact eff_skip D _ (w := w') hr hf hD (fun _ h => h) hk
section
variable {W w : World} {l : List HProp} (hl : ∀ B ∈ l, Stable B) (fq : Nat) (us : List (List Nat)) (fl now tm : Nat)
include hl
set_option maxRecDepth 100000 in
set_option maxHeartbeats 4000000 in
theorem cFopNextSend (hs : Sts W (fopP fq us fl fl now tm :: l) w) (n : Nat) (hn : now ≤ n) (hn2 : n ≤ 1000000) (hf : fl < us.length) (h1 : us.length < 16) (hu : ∀ u ∈ us, 1 ≤ u.length ∧ u.length ≤ 1017) :
    Calls Tryz.prog 56 #[.pointer (some ⟨fq, 0, none⟩), .int .i64 (n : Int)] w fun e w' => ∃ ra rc, e = .returned (.tuple #[.agg (tcV false false 5 0 fl (.slice ra us[fl].length rc)), .bool true]) ∧ Sts W (fopP fq us (fl + 1) (fl + 1) n n :: rowP 5 1 (.slice ra us[fl].length rc) us[fl].length (u8s us[fl]) :: l) w' := by
  obtain ⟨uv, vs, h0⟩ := Sts.openF hs
  obtain ⟨ub, uc, hue⟩ := own_pos h0.tail.rowOwn (by omega)
  subst hue
  obtain ⟨u, hu0⟩ : ∃ u, u = us[fl] := ⟨_, rfl⟩
  have HL := hid hl
  have HLU := hid (show ∀ B ∈ rowP 35 1 (.slice (some ⟨ub, 0, none⟩) us.length uc) us.length vs :: rowsP 5 vs us :: l, Stable B from stabC (rowP_stable _ _ _ _ _) (stabC (rowsP_stable _ _ _) hl))
  have hb := Sts.alloc (stabC (blkP_stable _ _) HLU.out) h0 (.cells zeroTc 46)
  have HB := hid hb.swap
  have HLB := hid (show ∀ B ∈ blkP w.heap.size (.cells zeroTc 46 (0, 0)) :: rowP 35 1 (.slice (some ⟨ub, 0, none⟩) us.length uc) us.length vs :: rowsP 5 vs us :: l, Stable B from stabC (blkP_stable _ _) HLU.out)
  have HUS := hid (cFopUsable fq 16 (.slice (some ⟨ub, 0, none⟩) us.length uc) 0 (fl : Int) (fl : Int) 5 0 20 10 1 (now : Int) (tm : Int) 0 hb.swap)
  have HCK := hid (cFopClock HLB.out fq fl fl now tm hb.swap n hn hn2)
  have HF := hid hf
  have HU1 := hid hu
  have HU0 := hid hu0
  have H1 := hid h1
  have b0 : ((us.length : Int) == 0) = false := by rw [beq_eq_false_iff_ne]; omega
  have HWB := hid (show decide (fl < us.length) = true from decide_eq_true hf)
  rw [← hu0]
  clear hs h0 hb hl h1 hu hn hn2 hu0
  unfold zeroTc at *
  go_enter Tryz.func56, Tryz.ntmps56
  go_wp2_with (first
    | (go_at_call 129; refine HUS.out.mono ?_; rintro e w1 ⟨rfl, rfl⟩)
    | (go_at_call 130; refine HCK.out.mono ?_; rintro e w1 ⟨rfl, h2⟩
       have H2 := hid h2
       have c11 : w1.cell? ⟨fq, 11, none⟩ = some (.slice none 0 0) := (Sts.boxCell h2 11 _ rfl).1
       have c10 : w1.cell? ⟨fq, 10, none⟩ = some (.int .i64 1) := (Sts.boxCell h2 10 _ rfl).1
       have c1 : w1.cell? ⟨fq, 1, none⟩ = some (.slice (some ⟨ub, 0, none⟩) us.length uc) := (Sts.boxCell h2 1 _ rfl).1
       clear h2)
    | (go_at_call 149; refine (cFopWaiting fq us fl fl n tm H2.out H1.out).mono ?_; rintro e w2 ⟨rfl, m, hm⟩
       rw [HWB.out]
       have H3 : Hid (Sts W (fopP fq us fl fl n tm :: blkP w.heap.size (.cells zeroTc 46 (0, 0)) :: l) w2) := hid (by
         rw [hm]
         have h4 := H2.out.quiet (stabC (blkP_stable _ _) HLB.out) (below_drewN (Below.refl _ _) m)
         exact Sts.closeF (uv := .slice (some ⟨ub, 0, none⟩) us.length uc) (vs := vs) (h4.perm ((List.perm_middle (l₁ := [_, _])).symm.cons _)))
       clear hm H2)
    | (go_at_call 150; refine (cFopTake (stabC (blkP_stable _ _) HL.out) fq us fl n tm H3.out hf (by have := H1.out; omega) HU1.out).mono ?_; rintro e w3 ⟨ra, rc, he, h5⟩
       rw [← HU0.out] at he h5
       subst he
       obtain ⟨uv2, vs2, h6⟩ := Sts.openF h5
       have H6 := hid h6
       have c12 : w3.cell? ⟨fq, 12, none⟩ = some (.int .i64 (n : Int)) := (Sts.boxCell h6 12 _ rfl).1
       clear h5 h6 H3)
    | (refine wpList_cellS H6.out (stabC (rowP_stable _ _ _ _ _) (stabC (rowsP_stable _ _ _) (stabC (rowP_stable _ _ _ _ _) (stabC (blkP_stable _ _) HL.out)))) rfl (.tmp 113) (.tmp 111) 3 rfl 13 (.int .i64 (n : Int)) rfl rfl szInt (show 13 < 15 by decide) rfl ?_; intro w4 h7
       have H7 : Hid (Sts W (blkP fq (.cells (fopA (fl + 1) (fl + 1) n n uv2) 216 (0, 0)) :: rowP 35 1 uv2 us.length vs2 :: rowsP 5 vs2 us :: rowP 5 1 (.slice ra u.length rc) u.length (u8s u) :: blkP w.heap.size (.cells #[.bool false, .bool false, .int .i64 0, .int .i64 0, .int .i64 0, .slice none 0 0] 46 (0, 0)) :: l) w4) := hid h7
       clear h7 H6))
  have HL7 := hid (show ∀ B ∈ blkP fq (.cells (fopA (fl + 1) (fl + 1) n n uv2) 216 (0, 0)) :: rowP 35 1 uv2 us.length vs2 :: rowsP 5 vs2 us :: rowP 5 1 (.slice ra u.length rc) u.length (u8s u) :: l, Stable B from stabC (blkP_stable _ _) (stabC (rowP_stable _ _ _ _ _) (stabC (rowsP_stable _ _ _) (stabC (rowP_stable _ _ _ _ _) HL.out))))
  refine wp_region_ordQ (.pure 0 (.pure 1 (.pure 2 (.pure 3 (.pure 4 (.pure 5 (.pure 6 (.pure 7 (.pure 8 (.pure 9 (.pure 10 (.eff 11 (.pure 12 .nil))))))))))))) (fun y => y.cell? ⟨fq, 6, none⟩ = some (.int .i64 5) ∧ y.cell? ⟨fq, 7, none⟩ = some (.int .i64 0)) (fun y => Sts W (blkP w.heap.size (.cells #[.bool false, .bool false, .int .i64 0, .int .i64 0, .int .i64 0, .slice none 0 0] 46 (0, 0)) :: blkP fq (.cells (fopA (fl + 1) (fl + 1) n n uv2) 216 (0, 0)) :: rowP 35 1 uv2 us.length vs2 :: rowsP 5 vs2 us :: rowP 5 1 (.slice ra u.length rc) u.length (u8s u) :: l) y) (by kernel_rfl) (by kernel_rfl) ((H7.out.perm (List.perm_middle (l₁ := [_, _, _, _]))).drew (stabC (blkP_stable _ _) HL7.out)) (fun y hy => ⟨(Sts.boxCell hy.tail 6 _ rfl).1, (Sts.boxCell hy.tail 7 _ rfl).1⟩) ?_
  iterate 11
    (apply ordq_pure (ho := rfl)
     · go_simp
     · intro x hx; obtain ⟨k1, k2⟩ := hx; go_simp; rfl
     apply ordq_norm
     · go_simp; rfl)
  apply ordq_eff (ho := rfl)
  · go_simp
  intro y hy
  refine eff_aggS hy HL7.out (.tmp 4) (.tmp 124) 46 rfl #[.bool false, .bool false, .int .i64 5, .int .i64 0, .int .i64 (fl : Int), .slice ra u.length rc] ?_ ?_ szTc rfl rfl (fun y => y.cell? ⟨fq, 6, none⟩ = some (.int .i64 5) ∧ y.cell? ⟨fq, 7, none⟩ = some (.int .i64 0)) (fun y hy => ⟨(Sts.boxCell hy.tail 6 _ rfl).1, (Sts.boxCell hy.tail 7 _ rfl).1⟩) ?_
  · go_simp
  · go_simp
  apply ordq_norm
  · go_simp; rfl
  iterate 1
    (apply ordq_pure (ho := rfl)
     · go_simp
     · intro x hx; go_simp; rfl
     apply ordq_norm
     · go_simp; rfl)
  refine ordq_nil fun z hz => ?_
  have HZ := hid hz
  clear hz hy y H7
  go_wp2_with fail
  refine post_cell2S HZ.out Tryz.results56 rfl rfl (ldTc rfl HZ.out) (.bool true) rfl ⟨ra, rc, rfl, ?_⟩
  exact Sts.closeF (uv := uv2) (vs := vs2) HZ.out.tail
set_option maxRecDepth 100000 in
set_option maxHeartbeats 4000000 in
/-- No unit is there. -/
theorem cFopNextNo (hs : Sts W (fopP fq us fl fl now tm :: l) w) (n : Nat) (hn : now ≤ n) (hn2 : n ≤ 1000000) (h1 : us.length = 0) :
    Calls Tryz.prog 56 #[.pointer (some ⟨fq, 0, none⟩), .int .i64 (n : Int)] w fun e w' => e = .returned (.tuple #[.agg zeroTc, .bool false]) ∧ Sts W (fopP fq us fl fl n tm :: l) w' := by
  obtain ⟨uv, vs, h0⟩ := Sts.openF hs
  obtain ⟨ua, uc, hue⟩ := own_slice h0.tail.rowOwn
  subst hue
  have HL := hid hl
  have HLU := hid (show ∀ B ∈ rowP 35 1 (.slice ua us.length uc) us.length vs :: rowsP 5 vs us :: l, Stable B from stabC (rowP_stable _ _ _ _ _) (stabC (rowsP_stable _ _ _) hl))
  have hb := Sts.alloc (stabC (blkP_stable _ _) HLU.out) h0 (.cells zeroTc 46)
  have HB := hid hb.swap
  have HLB := hid (show ∀ B ∈ blkP w.heap.size (.cells #[.bool false, .bool false, .int .i64 0, .int .i64 0, .int .i64 0, .slice none 0 0] 46 (0, 0)) :: rowP 35 1 (.slice ua us.length uc) us.length vs :: rowsP 5 vs us :: l, Stable B from stabC (blkP_stable _ _) HLU.out)
  have HUS := hid (cFopUsable fq 16 (.slice ua us.length uc) 0 (fl : Int) (fl : Int) 5 0 20 10 1 (now : Int) (tm : Int) 0 hb.swap)
  have HCK := hid (cFopClock HLB.out fq fl fl now tm hb.swap n hn hn2)
  have b0 : ((us.length : Int) == 0) = true := by rw [beq_iff_eq]; omega
  clear hs h0 hb hl hn hn2 h1
  unfold zeroTc at *
  go_enter Tryz.func56, Tryz.ntmps56
  go_wp2_with (first
    | (go_at_call 129; refine HUS.out.mono ?_; rintro e w1 ⟨rfl, rfl⟩)
    | (go_at_call 130; refine HCK.out.mono ?_; rintro e w1 ⟨rfl, h2⟩
       have H2 := hid h2
       have c11 : w1.cell? ⟨fq, 11, none⟩ = some (.slice none 0 0) := (Sts.boxCell h2 11 _ rfl).1
       have c10 : w1.cell? ⟨fq, 10, none⟩ = some (.int .i64 1) := (Sts.boxCell h2 10 _ rfl).1
       have c1 : w1.cell? ⟨fq, 1, none⟩ = some (.slice ua us.length uc) := (Sts.boxCell h2 1 _ rfl).1
       clear h2)
    | (refine wpList_aggS H2.out.swap (stabC (blkP_stable _ _) HLU.out) rfl (.tmp 4) (.tmp 55) 46 rfl #[.bool false, .bool false, .int .i64 0, .int .i64 0, .int .i64 0, .slice none 0 0] rfl rfl szTc rfl rfl ?_; intro w9 h9; have HF := hid h9; clear h9))
  refine post_cell2S HF.out Tryz.results56 rfl rfl (ldTc rfl HF.out) (.bool false) rfl ⟨rfl, ?_⟩
  have h9 : Sts W (blkP w.heap.size (.cells #[.bool false, .bool false, .int .i64 0, .int .i64 0, .int .i64 0, .slice none 0 0] 46 (0, 0)) :: blkP fq (.cells (fopA fl fl n tm (.slice ua us.length uc)) 216 (0, 0)) :: rowP 35 1 (.slice ua us.length uc) us.length vs :: rowsP 5 vs us :: l) w9 := HF.out
  exact Sts.closeF (uv := (.slice ua us.length uc)) (vs := vs) h9.tail
set_option maxRecDepth 100000 in
set_option maxHeartbeats 4000000 in
/-- All units are on their way, and it is not yet time to repeat them. -/
theorem cFopNextWait (hs : Sts W (fopP fq us fl fl now tm :: l) w) (n : Nat) (hn : now ≤ n) (hn2 : n ≤ 1000000) (h1 : 1 ≤ us.length) (h2 : us.length < 16) (hf : us.length ≤ fl) (ht : n < tm + 20) (ht2 : tm ≤ 1000000) :
    Calls Tryz.prog 56 #[.pointer (some ⟨fq, 0, none⟩), .int .i64 (n : Int)] w fun e w' => e = .returned (.tuple #[.agg zeroTc, .bool false]) ∧ Sts W (fopP fq us fl fl n tm :: l) w' := by
  obtain ⟨uv, vs, h0⟩ := Sts.openF hs
  obtain ⟨ua, uc, hue⟩ := own_slice h0.tail.rowOwn
  subst hue
  have HL := hid hl
  have HLU := hid (show ∀ B ∈ rowP 35 1 (.slice ua us.length uc) us.length vs :: rowsP 5 vs us :: l, Stable B from stabC (rowP_stable _ _ _ _ _) (stabC (rowsP_stable _ _ _) hl))
  have hb := Sts.alloc (stabC (blkP_stable _ _) HLU.out) h0 (.cells zeroTc 46)
  have HB := hid hb.swap
  have HLB := hid (show ∀ B ∈ blkP w.heap.size (.cells #[.bool false, .bool false, .int .i64 0, .int .i64 0, .int .i64 0, .slice none 0 0] 46 (0, 0)) :: rowP 35 1 (.slice ua us.length uc) us.length vs :: rowsP 5 vs us :: l, Stable B from stabC (blkP_stable _ _) HLU.out)
  have HUS := hid (cFopUsable fq 16 (.slice ua us.length uc) 0 (fl : Int) (fl : Int) 5 0 20 10 1 (now : Int) (tm : Int) 0 hb.swap)
  have HCK := hid (cFopClock HLB.out fq fl fl now tm hb.swap n hn hn2)
  have b0 : ((us.length : Int) == 0) = false := by rw [beq_eq_false_iff_ne]; omega
  have H16 := hid h2
  have HWB := hid (show decide (fl < us.length) = false from decide_eq_false (by omega))
  have e1 : wrap64 ((tm : Int) + 20) = (tm : Int) + 20 := by unfold wrap64; omega
  have e2 : decide ((n : Int) < (tm : Int) + 20) = true := decide_eq_true (by omega)
  have e4 : IntKind.i64.wrap ((tm : Int) + 20) = (tm : Int) + 20 := by rw [IntKind.wrap_i64]; omega
  have e5 : IntKind.i64.wrap (20 + (tm : Int)) = (tm : Int) + 20 := by rw [IntKind.wrap_i64]; omega
  have e6 : wrap64 (20 + (tm : Int)) = (tm : Int) + 20 := by unfold wrap64; omega
  have e3 : (n : Int) < (tm : Int) + 20 := by omega
  clear hs h0 hb hl hn hn2 h1 h2 hf ht ht2
  unfold zeroTc at *
  go_enter Tryz.func56, Tryz.ntmps56
  go_wp2_with (first
    | (go_at_call 129; refine HUS.out.mono ?_; rintro e w1 ⟨rfl, rfl⟩)
    | (go_at_call 130; refine HCK.out.mono ?_; rintro e w1 ⟨rfl, h2⟩
       have H2 := hid h2
       have c11 : w1.cell? ⟨fq, 11, none⟩ = some (.slice none 0 0) := (Sts.boxCell h2 11 _ rfl).1
       have c10 : w1.cell? ⟨fq, 10, none⟩ = some (.int .i64 1) := (Sts.boxCell h2 10 _ rfl).1
       have c1 : w1.cell? ⟨fq, 1, none⟩ = some (.slice ua us.length uc) := (Sts.boxCell h2 1 _ rfl).1
       clear h2)
    | (go_at_call 149; refine (cFopWaiting fq us fl fl n tm H2.out H16.out).mono ?_; rintro e w2 ⟨rfl, m, hm⟩
       rw [HWB.out]
       have H3 := hid (show Sts W (blkP fq (.cells (fopA fl fl n tm (.slice ua us.length uc)) 216 (0, 0)) :: blkP w.heap.size (.cells #[.bool false, .bool false, .int .i64 0, .int .i64 0, .int .i64 0, .slice none 0 0] 46 (0, 0)) :: rowP 35 1 (.slice ua us.length uc) us.length vs :: rowsP 5 vs us :: l) w2 by rw [hm]; exact H2.out.quiet (stabC (blkP_stable _ _) HLB.out) (below_drewN (Below.refl _ _) m))
       have c12 : w2.cell? ⟨fq, 12, none⟩ = some (.int .i64 (n : Int)) := (Sts.boxCell H3.out 12 _ rfl).1
       have c13 : w2.cell? ⟨fq, 13, none⟩ = some (.int .i64 (tm : Int)) := (Sts.boxCell H3.out 13 _ rfl).1
       have c8 : w2.cell? ⟨fq, 8, none⟩ = some (.int .i64 20) := (Sts.boxCell H3.out 8 _ rfl).1
       clear hm H2))
  go_quiet (fail)
  have H4 := hid (show Sts W (blkP fq (.cells (fopA fl fl n tm (.slice ua us.length uc)) 216 (0, 0)) :: blkP w.heap.size (.cells #[.bool false, .bool false, .int .i64 0, .int .i64 0, .int .i64 0, .slice none 0 0] 46 (0, 0)) :: rowP 35 1 (.slice ua us.length uc) us.length vs :: rowsP 5 vs us :: l) (w2.drewN nq) from H3.out.quiet (stabC (blkP_stable _ _) HLB.out) (below_drewN (Below.refl _ _) nq))
  go_wp2_with (refine wpList_aggS H4.out.swap (stabC (blkP_stable _ _) HLU.out) rfl (.tmp 4) (.tmp 75) 46 rfl #[.bool false, .bool false, .int .i64 0, .int .i64 0, .int .i64 0, .slice none 0 0] rfl rfl szTc rfl rfl ?_; intro w9 h9; have HF := hid h9; clear h9)
  refine post_cell2S HF.out Tryz.results56 rfl rfl (ldTc rfl HF.out) (.bool false) rfl ⟨rfl, ?_⟩
  have h9 : Sts W (blkP w.heap.size (.cells #[.bool false, .bool false, .int .i64 0, .int .i64 0, .int .i64 0, .slice none 0 0] 46 (0, 0)) :: blkP fq (.cells (fopA fl fl n tm (.slice ua us.length uc)) 216 (0, 0)) :: rowP 35 1 (.slice ua us.length uc) us.length vs :: rowsP 5 vs us :: l) w9 := HF.out
  exact Sts.closeF (uv := (.slice ua us.length uc)) (vs := vs) h9.tail
end
end Go.Proofs.YtnklmadmenkdoaaGreat
namespace Go
open Go.RowKit
theorem wpIn_never {F : Fence} {n : Nat} {P : Program} {g : Operand} {p : Tmp} {assign body : Code} {Q : Exit → Act → World → Prop} {a : Act} {w : World} (hro : F.round = none) (h1 : 1 ≤ n)
    {gf : Nat} {lb : Array Value} (hg : a.eval g = .func (.func gf) #[] lb) (hFg : F.fn gf) (eg : ∀ args w, (callFunc gf args).run P w = .ok (.enter gf args) w)
    (hseq : ∀ (l : Nat) (W : World), Below w.heap.size w W → CallsIn F (n - 1) P gf (#[.func (.yield l) #[] #[]] ++ lb) W fun e W' => (∃ v, e = .returned v) ∧ Below W.heap.size W W')
    (hend : ∀ (D : Nat) (W : World), w.heap.size ≤ D → Below w.heap.size w W → W.heap[D]? = some (.deferred (some [])) → Q .normal { a with defers := { target := .collected D, args := #[] } :: a.defers } W) :
    (Code.rangeFunc g #[p] assign body).wpIn F n P Q a w := by
  refine wpIn_rangeFunc fun fn hfn => ?_
  rw [hro]
  obtain ⟨rec, hrec⟩ : ∃ rec : LoopState → Option Code → Loop, rec = fun st pe => { state := st, pending := pe, fn, tmps := a.tmps, params := #[p], assign, body, defers := w.heap.size } := ⟨_, rfl⟩
  obtain ⟨W1, hW1⟩ : ∃ W1, (w.alloc (.deferred (some []))).alloc (.loop (rec .ready none)) = W1 := ⟨_, rfl⟩
  have hL : W1.heap[w.heap.size + 1]? = some (.loop (rec .ready none)) := by
    rw [← hW1]; have := World.alloc_heap_new (w.alloc (.deferred (some []))) (.loop (rec .ready none)); rwa [World.size_alloc] at this
  have hD : W1.heap[w.heap.size]? = some (.deferred (some [])) := by
    rw [← hW1]; exact (Below.heap_alloc _ _ _ (by simp)).trans (World.alloc_heap_new w _)
  have hb1 : Below w.heap.size w W1 := by
    rw [← hW1]; exact ((Below.refl _ w).alloc (Nat.le_refl _) _).alloc (by simp) _
  have hsz : w.heap.size + 1 < W1.heap.size := by rw [← hW1]; simp
  refine ⟨w.heap.size + 1, [{ target := .collected w.heap.size, args := #[] }], W1, { target := .fn (.func gf) lb, args := #[.func (.yield (w.heap.size + 1)) #[] #[]] }, W1, gf,
    #[.func (.yield (w.heap.size + 1)) #[] #[]] ++ lb, W1, ?_, ?_, ?_, ?_, fun _ => h1, ?_⟩
  · rw [← hW1, hrec]; exact run_enterLoop_outer _ _ _ _ _
  · simp only [resolve, hg]
    simp [go_sem]
  · intro f' hf'; simp [Target.leads] at hf'; subst hf'; exact hFg
  · simp [invoke, go_sem, eg]
  · refine (hseq (w.heap.size + 1) W1 hb1).mono ?_
    rintro e W2 ⟨⟨v, rfl⟩, hb2⟩
    have hl : W2.heap[w.heap.size + 1]? = some (.loop (rec .ready none)) := (hb2.block _ hsz).trans hL
    have hd : W2.heap[w.heap.size]? = some (.deferred (some [])) := (hb2.block _ (by omega)).trans hD
    have h := run_endLoop (P := P) hl (by rw [hrec]; simp)
    rw [hrec] at h
    refine ⟨none, _, h, hend _ _ (Nat.le_refl _) ?_ ((World.putObj_heap_other (by omega)).trans hd)⟩
    have hb3 : Below w.heap.size w W2 := hb1.trans (hb2.mono (by omega))
    exact hb3.grown (grownBy_putObj' _ _ _) hb3.size (fun k hk => by injection hk with hk; omega)
end Go
