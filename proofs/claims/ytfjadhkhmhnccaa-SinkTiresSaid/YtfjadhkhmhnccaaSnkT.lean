/- The law SinkTires. -/
import Derived.Test.YtfjadhkhmhnccaaSnkN
set_option linter.unusedVariables false
set_option linter.unusedSimpArgs false
namespace Fil
open Go
def tirS (t r n k : Int) (a nk : Bool) : Snk := { src := 1, num := 5, cls := 2, chunk := 1, timeout := t, retries := r, now := n, fin := true, endSize := 3, sum := 1633837824, timer := n, tries := k, ack := a, nak := nk }
def tirW (t r n k m : Int) : Snk := { tirS t r n k false false with now := m }
def tir0 (t r : Int) : Snk := { src := 1, num := 5, cls := 2, chunk := 1, timeout := t, retries := r }
theorem tir_take (t r : Int) : (tir0 t r).takeV (endP 2 3 (sumV [97, 98, 99])) 0 = (tirS t r 0 0 true true, 0) := by kernel_rfl
theorem tir_fit (t r : Int) : (((tir0 t r).adv 0).recV (endP 2 3 (sumV [97, 98, 99]))).1.fitB = true := by kernel_rfl
theorem tir_adv (t r n k : Int) (ht : 1 ≤ t ∧ t ≤ 2000) (hn : 0 ≤ n ∧ n ≤ 100000) : (tirS t r n k false false).adv (n + t - 1) = tirW t r n k (n + t - 1) := by
  unfold Snk.adv
  split
  · rfl
  · rename_i h
    have h2 : ¬ (n < n + t - 1 ∧ n + t - 1 ≤ 1099511627776) := h
    have e : n + t - 1 = n := by omega
    rw [e]; rfl
theorem tir_adv2 (t r n k : Int) (ht : 1 ≤ t ∧ t ≤ 2000) (hn : 0 ≤ n ∧ n ≤ 100000) : (tirW t r n k (n + t - 1)).adv (n + t) = tirW t r n k (n + t) := by
  unfold Snk.adv
  have h : (tirW t r n k (n + t - 1)).now < n + t ∧ n + t ≤ 1099511627776 := by
    show n + t - 1 < n + t ∧ _; omega
  rw [if_pos h]; rfl
theorem tir_gaps (t r n k m : Int) : (tirW t r n k m).gapsV = [(0, 0), (0, 3)] := by kernel_rfl
theorem tir_gaps0 (t r : Int) : (tirS t r 0 0 false true).gapsV = [(0, 0), (0, 3)] := by kernel_rfl
end Fil
namespace Go.Proofs.Ytfjadhkhmhnccaa
open Go.RowKit Go.Proofs.Num
set_option maxRecDepth 100000 in
set_option maxHeartbeats 8000000 in
theorem tires_all (w : World) (timeout retries : Int) : Calls Try.prog 11 #[.int .i64 timeout, .int .i64 retries] w fun e w' => e = .returned (.bool true) ∧ Below w.heap.size w w' := by
  have hA : Sts w [blkP w.heap.size (.cells #[.int .i64 0, .int .i64 0, .int .i64 0] 26 (0, 0))] (w.alloc (.cells #[.int .i64 0, .int .i64 0, .int .i64 0] 26)) := (Sts.nil w).alloc stab0 (.cells #[.int .i64 0, .int .i64 0, .int .i64 0] 26 (0, 0))
  have HA := hid hA
  clear hA
  have hc : cfg28 1 timeout retries = false ∨ (cfg28 1 timeout retries = true ∧ decide (40 < retries) = true) ∨ (cfg28 1 timeout retries = true ∧ decide (40 < retries) = false ∧ decide (2000 < timeout) = true) ∨ (cfg28 1 timeout retries = true ∧ decide (40 < retries) = false ∧ decide (2000 < timeout) = false) := by
    cases cfg28 1 timeout retries <;> cases decide (40 < retries) <;> cases decide (2000 < timeout) <;> simp
  rcases hc with c1 | ⟨c1, c2⟩ | ⟨c1, c2, c3⟩ | ⟨c1, c2, c3⟩
  iterate 3
    (go_enter Try.func11, Try.ntmps11
     go_wp2_with (first | (refine wpList_agg HA.out stab0 rfl (.tmp 5) (.tmp 20) 26 rfl #[.int .i64 1, .int .i64 timeout, .int .i64 retries] rfl rfl sizeCfg rfl rfl ?_; intro w1 hz; have HB := hid hz; clear hz HA) | (refine wpList_ld2 rfl (.tmp 5) 26 rfl rfl (.agg #[.int .i64 1, .int .i64 timeout, .int .i64 retries]) (ldCfg rfl HB.out) ?_))
     refine (cRight28 _ 1 timeout retries).mono ?_
     rintro e w2 ⟨rfl, hb⟩
     rw [c1]
     have HC := hid (HB.out.below.trans (hb.mono HB.out.below.size))
     clear hb HB
     go_wp2_with fail
     refine (cAlive28 _).mono ?_
     rintro e w9 ⟨rfl, hb9⟩
     have H9 := hid (HC.out.trans (hb9.mono HC.out.size))
     clear hb9
     go_wp2_with fail
     go_ret
     exact ⟨rfl, H9.out⟩)
  have hcf := c1
  unfold cfg28 Fil.withinB at hcf
  simp only [Bool.and_eq_true, decide_eq_true_eq] at hcf
  have hr40 := of_decide_eq_false c2
  have ht20 := of_decide_eq_false c3
  have hnb : Fil.snkB 1 5 2 1 timeout retries = true := by
    have e : Fil.snkB 1 5 2 1 timeout retries = cfg28 1 timeout retries := by unfold Fil.snkB cfg28; rw [show (Fil.withinB 1 0 15 && Fil.withinB 5 0 65535 && Fil.withinB 2 1 2) = true by decide, Bool.true_and, Bool.and_assoc]
    rw [e, c1]
  obtain ⟨R, hR⟩ := Int.eq_ofNat_of_zero_le (show 0 ≤ retries by omega)
  have hT : 1 ≤ timeout ∧ timeout ≤ 2000 := by omega
  have hR2 : R ≤ 40 := by omega
  have HNB := hid hnb
  have HRR := hid hR
  clear hcf hr40 ht20 hnb hR
  go_enter Try.func11, Try.ntmps11
  go_wp2_with (first | (refine wpList_agg HA.out stab0 rfl (.tmp 5) (.tmp 20) 26 rfl #[.int .i64 1, .int .i64 timeout, .int .i64 retries] rfl rfl sizeCfg rfl rfl ?_; intro w1 hz; have HB := hid hz; clear hz HA) | (refine wpList_ld2 rfl (.tmp 5) 26 rfl rfl (.agg #[.int .i64 1, .int .i64 timeout, .int .i64 retries]) (ldCfg rfl HB.out) ?_))
  refine (cRight28 _ 1 timeout retries).mono ?_
  rintro e w2 ⟨rfl, hb⟩
  rw [c1]
  have HC := hid (HB.out.quiet (stab1 (blkP_stable _ _)) hb)
  clear hb HB
  go_wp2_with fail
  clear c1 c2 c3
  refine wp_region_ord (.pure 1 (.eff 0 (.eff 2 (.pure 3 (.pure 4 (.pure 5 (.pure 6 (.pure 7 .nil)))))))) (fun y => y.cell? ⟨w.heap.size, 0, none⟩ = some (.int .i64 1) ∧ y.cell? ⟨w.heap.size, 1, none⟩ = some (.int .i64 timeout) ∧ y.cell? ⟨w.heap.size, 2, none⟩ = some (.int .i64 retries)) (fun y => Sts w [blkP w.heap.size (.cells #[.int .i64 1, .int .i64 timeout, .int .i64 retries] 26 (0, 0))] y) (by kernel_rfl) (by kernel_rfl) (HC.out.drew (stab1 (blkP_stable _ _))) (fun z hz => ⟨(Sts.boxCell hz 0 _ rfl).1, (Sts.boxCell hz 1 _ rfl).1, (Sts.boxCell hz 2 _ rfl).1⟩) ?_
  apply ord_pure (ho := rfl)
  · go_simp
  · intro x hx; obtain ⟨q0, q1, q2⟩ := hx; go_simp; rfl
  apply ord_norm
  · go_simp; rfl
  apply ord_eff (ho := rfl)
  · go_simp
  intro y hy
  refine eff_call (f := 34) (by go_simp) (cLId y) ?_
  rintro e w2 ⟨rfl, hb⟩
  refine ⟨_, rfl, (fun y => y.cell? ⟨w.heap.size, 0, none⟩ = some (.int .i64 1) ∧ y.cell? ⟨w.heap.size, 1, none⟩ = some (.int .i64 timeout) ∧ y.cell? ⟨w.heap.size, 2, none⟩ = some (.int .i64 retries)), (fun y => Sts w [blkP w.heap.size (.cells #[.int .i64 1, .int .i64 timeout, .int .i64 retries] 26 (0, 0))] y), hy.quiet (stab1 (blkP_stable _ _)) hb, (fun z hz => ⟨(Sts.boxCell hz 0 _ rfl).1, (Sts.boxCell hz 1 _ rfl).1, (Sts.boxCell hz 2 _ rfl).1⟩), (fun _ h => h), ?_⟩
  clear hb hy y
  apply ord_norm
  · go_simp; rfl
  apply ord_eff (ho := rfl)
  · go_simp
  intro y hy
  refine eff_call (f := 33) (by go_simp) (cKNewOk (stab1 (blkP_stable _ _)) 1 5 2 1 timeout retries hy HNB.out) ?_
  rintro e w3 ⟨q, rfl, h⟩
  refine ⟨_, rfl, (fun y => y.cell? ⟨w.heap.size, 0, none⟩ = some (.int .i64 1) ∧ y.cell? ⟨w.heap.size, 1, none⟩ = some (.int .i64 timeout) ∧ y.cell? ⟨w.heap.size, 2, none⟩ = some (.int .i64 retries)), (fun y => Sts w [snkP q (Fil.tir0 timeout retries), blkP w.heap.size (.cells #[.int .i64 1, .int .i64 timeout, .int .i64 retries] 26 (0, 0))] y), h, (fun z hz => ⟨(Sts.boxCell hz.tail 0 _ rfl).1, (Sts.boxCell hz.tail 1 _ rfl).1, (Sts.boxCell hz.tail 2 _ rfl).1⟩), (fun _ h => h), ?_⟩
  clear h hy y
  apply ord_norm
  · go_simp; rfl
  iterate 5
    (apply ord_pure (ho := rfl)
     · go_simp
     · intro x hx; go_simp; rfl
     apply ord_norm
     · go_simp; rfl)
  refine ord_nil fun z hz => ?_
  have H3 := hid hz.swap.tail
  clear hz HC
  have kc := fun (w : World) (C : Array Value) (n c : Nat) => Lib.run_convert_bytes_const (P := Try.prog) w 24 5 C n c Try.underlying24 Try.underlying5
  go_wp2_with fail
  clear kc
  have H4 := hid (H3.out.alloc (stab1 (snkP_stable _ _)) (.cells #[.int .u8 97, .int .u8 98, .int .u8 99] 5 (3, 4)))
  clear H3
  generalize z.heap.size = b0 at *
  generalize z.alloc (.cells #[.int .u8 97, .int .u8 98, .int .u8 99] 5 (3, 4)) = w4 at *
  refine (cLEnd w4 2 _ [97, 98, 99] (⟨(Rds.blk (W := w) (l := [blkP b0 (.cells #[.int .u8 97, .int .u8 98, .int .u8 99] 5 (3, 4))]) rfl (by decide) (List.mem_cons_self ..)) _ _ H4.out.swap, by decide⟩ : RdB w4 (.slice (some ⟨b0, 0, none⟩) 3 3) [97, 98, 99]) (by decide)).mono ?_
  rintro e w5 ⟨rfl, hb⟩
  have H5 : Hid (Sts w [snkP q (Fil.tir0 timeout retries)] w5) := hid (H4.out.tail.quiet (stab1 (snkP_stable _ _)) (hb.mono (Nat.le_refl _)))
  clear hb H4
  go_wp2_with fail
  refine (cTakeS stab0 q _ _ _ 0 (Fil.endP 2 3 (Fil.sumV [97, 98, 99])) H5.out (by decide) (by decide) ⟨rfl, rfl, rfl⟩ (rdP_none ⟨rfl, rfl, rfl⟩) (fun _ => rfl) (by kernel_rfl) (Fil.tir_fit timeout retries) (Fil.tir_take timeout retries)).mono ?_
  rintro e w6 ⟨rfl, h⟩
  have H6 := hid h
  clear h H5
  go_wp2_with fail
  refine (cNxtAck stab0 q _ (Fil.tirS timeout retries 0 0 true true) H6.out 0 rfl rfl rfl).mono ?_
  rintro e w7 ⟨rfl, h⟩
  have H7 : Hid (Sts w [snkP q (Fil.tirS timeout retries 0 0 false true)] w7) := hid h
  clear h H6
  go_wp2_with fail
  refine (cNxtNakB stab0 q _ (Fil.tirS timeout retries 0 0 false true) H7.out 0 rfl rfl rfl (by show (0 : Int) ≤ 0 + timeout ∧ 0 + timeout < _; omega) rfl (by show decide ((0 : Int) + timeout ≤ 0) = false; exact decide_eq_false (by omega)) rfl rfl 3 rfl (by decide) (by show (0 : Nat) < 1000000; omega) (Fil.tirS timeout retries 0 0 false false) rfl _ (Fil.tir_gaps0 timeout retries)).mono ?_
  rintro e w8 ⟨ga, gc, rfl, h⟩
  have H8 := hid h.swap.tail
  clear h H7
  go_wp2_with fail
  go_loopw [8, 9] (fun nv iv wr => ∃ (n : Int) (k : Nat), nv = .int .i64 n ∧ iv = .int .i64 (k : Int) ∧ k ≤ R ∧ 0 ≤ n ∧ n ≤ 2000 * k ∧ Sts w [snkP q (Fil.tirS timeout retries n k false false)] wr) (fun nv iv _ => R - (intOf iv).toNat)
  case atStart => exact ⟨0, 0, rfl, rfl, by omega, by omega, by omega, H8.out⟩
  case round =>
    obtain ⟨n, k, rfl, rfl, hk, hn0, hn1, hS⟩ := hrel
    have HS := hid hS
    clear hS H8
    have hn2 : 0 ≤ n ∧ n ≤ 100000 := by omega
    have hw1 : IntKind.i64.wrap (n + timeout) = n + timeout := by rw [IntKind.wrap_i64]; omega
    have hw2 : IntKind.i64.wrap (n + timeout - 1) = n + timeout - 1 := by rw [IntKind.wrap_i64]; omega
    have HAD := hid (Fil.tir_adv timeout retries n k hT hn2)
    have HAD2 := hid (Fil.tir_adv2 timeout retries n k hT hn2)
    have hTT : Hid (0 ≤ n + timeout ∧ n + timeout < 4611686018427387904) := hid (by omega)
    have hD1 : Hid (decide (n + timeout ≤ n + timeout - 1) = false) := hid (decide_eq_false (by omega))
    have hD2 : Hid (decide (n + timeout ≤ n + timeout) = true) := hid (decide_eq_true (by omega))
    by_cases hlt : k < R
    · have hlt1 : (k : Int) < retries := by have := HRR.out; omega
      have hlt2 : decide ((k : Int) < retries) = true := decide_eq_true hlt1
      have HQ : Hid (((k : Int) == retries) = false) := hid (by have := HRR.out; rw [beq_eq_false_iff_ne]; omega)
      go_wp2_with fail
      refine (cNxtZero stab0 q _ (Fil.tirW timeout retries n k (n + timeout - 1)) HS.out (n + timeout - 1) HAD.out rfl rfl hTT.out rfl hD1.out rfl).mono ?_
      rintro e w9 ⟨rfl, h⟩
      have HX := hid (h.alloc (stab1 (snkP_stable _ _)) (.cells zeroPdu 45 (0, 0)))
      clear h HS
      go_wp2_with (first | (refine wpList_agg HX.out (stab1 (snkP_stable _ _)) rfl (.tmp 10) (.tmp 61) 45 rfl zeroPdu rfl rfl sizePdu rfl rfl ?_; intro w10 hz; have HY := hid hz.tail; clear hz HX))
      refine (cNxtAgainNB stab0 q _ (Fil.tirW timeout retries n k (n + timeout)) HY.out (n + timeout) HAD2.out rfl rfl hTT.out rfl hD2.out HQ.out (by show (0 : Int) ≤ k ∧ (k : Int) < 1000000; omega) (Or.inr ⟨rfl, rfl, rfl⟩) rfl 3 rfl (by decide) (by show (0 : Nat) < 1000000; omega) (Fil.tirS timeout retries (n + timeout) (k + 1) false false) rfl _ (Fil.tir_gaps timeout retries n k (n + timeout))).mono ?_
      rintro e w11 ⟨ga, gc, rfl, h⟩
      have HX2 := hid (h.swap.tail.alloc (stab1 (snkP_stable _ _)) (.cells zeroPdu 45 (0, 0)))
      clear h HY
      go_wp2_with (first | (refine wpList_agg HX2.out (stab1 (snkP_stable _ _)) rfl (.tmp 12) (.tmp 67) 45 rfl ({ kind := 4, src := 1, num := 5, ga := ga, gaps := [(0, 0), (0, 3)], gc := gc } : Fil.Pdu).cells rfl rfl sizePdu rfl rfl ?_; intro w12 hz; have e0 : w12.cell? ⟨w11.heap.size, 0, none⟩ = some (.int .i64 4) := (Sts.boxCell hz 0 _ rfl).1; have HZ := hid hz.tail; clear hz HX2))
      go_roundw
      case rel => exact ⟨n + timeout, k + 1, rfl, by go_num, by omega, by omega, by omega, HZ.out⟩
      case measure => simp [intOf]; omega
    · obtain rfl : k = R := by omega
      have hlt1 : ¬ (k : Int) < retries := by have := HRR.out; omega
      have hlt2 : decide ((k : Int) < retries) = false := decide_eq_false hlt1
      have HQ : Hid (((k : Int) == retries) = true) := hid (by rw [HRR.out]; simp)
      go_wp2_with fail
      refine (cNxtZero stab0 q _ (Fil.tirW timeout retries n k (n + timeout - 1)) HS.out (n + timeout - 1) HAD.out rfl rfl hTT.out rfl hD1.out rfl).mono ?_
      rintro e w9 ⟨rfl, h⟩
      have HX := hid (h.alloc (stab1 (snkP_stable _ _)) (.cells zeroPdu 45 (0, 0)))
      clear h HS
      go_wp2_with (first | (refine wpList_agg HX.out (stab1 (snkP_stable _ _)) rfl (.tmp 14) (.tmp 86) 45 rfl zeroPdu rfl rfl sizePdu rfl rfl ?_; intro w10 hz; have HY := hid hz.tail; clear hz HX) | (go_at_call 42; refine (cStateK q _ HY.out).mono ?_; rintro e w8 ⟨rfl, rfl⟩; rw [show (Fil.tirW timeout retries n k (n + timeout - 1)).stateV = 1 from rfl]))
      refine (cNxtFail stab0 q _ (Fil.tirW timeout retries n k (n + timeout)) HY.out (n + timeout) HAD2.out rfl rfl hTT.out rfl hD2.out HQ.out (by show (0 : Int) ≤ n + timeout + timeout ∧ n + timeout + timeout < _; omega)).mono ?_
      rintro e w11 ⟨rfl, h⟩
      have HX2 := hid (h.alloc (stab1 (snkP_stable _ _)) (.cells zeroPdu 45 (0, 0)))
      have HST : Hid ((Fil.Snk.repV ((Fil.tirW timeout retries n k (n + timeout)).failV 10)).1.stateV = 5) := hid rfl
      have HV : Hid ((Fil.Snk.repV ((Fil.tirW timeout retries n k (n + timeout)).failV 10)).2 = true) := hid rfl
      clear h HY
      rw [HV.out]
      go_wp2_with (first | (refine wpList_agg HX2.out (stab1 (snkP_stable _ _)) rfl (.tmp 16) (.tmp 100) 45 rfl (Fil.Snk.repP ((Fil.tirW timeout retries n k (n + timeout)).failV 10)).cells rfl rfl sizePdu rfl rfl ?_; intro w12 hz; have e0 : w12.cell? ⟨w11.heap.size, 0, none⟩ = some (.int .i64 5) := (Sts.boxCell hz 0 _ rfl).1; have e9 : w12.cell? ⟨w11.heap.size, 9, none⟩ = some (.int .i64 10) := (Sts.boxCell hz 9 _ rfl).1; have HZ := hid hz.tail; clear hz HX2) | (go_at_call 42; refine (cStateK q _ HZ.out).mono ?_; rintro e w8 ⟨rfl, rfl⟩; rw [HST.out]) | (go_at_call 32; refine (cAlive28 _).mono ?_; rintro e w9 ⟨rfl, hb9⟩; have H9 := hid (HZ.out.below.trans (hb9.mono HZ.out.below.size)); clear hb9))
      go_ret
      exact ⟨rfl, H9.out⟩
end Go.Proofs.Ytfjadhkhmhnccaa
