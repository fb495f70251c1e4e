/- The specification's numbers of one and two bytes, and its encoding of a command. -/
import Derived.Test.YtnklmadmenkdoaaGreatQSnrJ
import Derived.Test.YtnklmadmenkdoaaGreatQSndP
set_option linter.unusedVariables false
set_option linter.unusedSimpArgs false
namespace Go.Proofs.YtnklmadmenkdoaaGreat
open Go.RowKit Go.Proofs.Num
theorem make8_1 (W : World) : (Instr.makeSlice 35 (.int .i64 1) (.int .i64 1)).run Tryz.prog W = .ok (.slice (some ⟨W.heap.size, 0, none⟩) 1 1) (W.alloc (.cells #[.int .u8 0] 5)) := by kernel_rfl
set_option maxRecDepth 100000 in
theorem cRUint1 (w : World) (x : Nat) (hx : x < 4294967296) :
    Calls Tryz.prog 96 #[.int .u64 x, .int .i64 1] w fun e w' => ∃ r, e = .returned r ∧ New w w' 5 r (u8s (Oct.be 1 x)) := by
  have hmk := make8_1
  have h0 : Sts w [rowP 5 1 (.slice (some ⟨w.heap.size, 0, none⟩) 1 1) 1 (u8s [0])] (w.alloc (.cells #[.int .u8 0] 5)) :=
    ((Sts.nil w).alloc stab0 (.cells #[.int .u8 0] 5)).weaken (fun F h => blkP.row h (by simp))
  have H0 := hid h0
  clear h0
  go_enter Tryz.func96, Tryz.ntmps96
  go_wp2_with fail
  clear hmk
  go_loopw [0, 6] (fun n i wr => (i = .int .i64 0 ∧ n = .int .u64 x ∧ Sts w [rowP 5 1 (.slice (some ⟨w.heap.size, 0, none⟩) 1 1) 1 (u8s [0])] wr) ∨ (i = .int .i64 (-1) ∧ Sts w [rowP 5 1 (.slice (some ⟨w.heap.size, 0, none⟩) 1 1) 1 (u8s (Oct.be 1 x))] wr)) (fun _ i _ => (intOf i + 1).toNat)
  case atStart => exact Or.inl ⟨rfl, rfl, H0.out⟩
  case round =>
    rcases hrel with ⟨rfl, rfl, hs⟩ | ⟨rfl, hs⟩
    · have hf := Sts.rowFree hs 0
      have hcell := Sts.rowCell hs 0 (by omega) (.int .u8 0) rfl
      have hst := Sts.rowStore stab0 hs 0 (.int .u8 (x % 256 : Nat))
      have e : (u8s [0]).set 0 (Value.int .u8 ((x % 256 : Nat) : Int)) = u8s (Oct.be 1 x) := by simp [u8s, Oct.be]
      rw [e] at hst
      have HST := hid hst
      clear hst e hs
      go_wp2_with fail
      go_roundw
      case rel => exact Or.inr ⟨rfl, by first | exact HST.out | (have := HST.out; simpa using this)⟩
      case measure => simp [intOf]
    · go_wp2_with fail
      go_ret
      exact ⟨_, rfl, New.of_sts hs (by simp [u8s, Oct.be_len])⟩
theorem make8_2 (W : World) : (Instr.makeSlice 35 (.int .i64 2) (.int .i64 2)).run Tryz.prog W = .ok (.slice (some ⟨W.heap.size, 0, none⟩) 2 2) (W.alloc (.cells #[.int .u8 0, .int .u8 0] 5)) := by kernel_rfl
theorem be_step2 (x m : Nat) (hm : m < 2) : ((List.replicate (2 - m) 0 ++ Oct.be m x).set (1 - m) (x / 256 ^ m % 256)) = List.replicate (2 - (m + 1)) 0 ++ Oct.be (m + 1) x := by
  match m, hm with
  | 0, _ => rfl
  | 1, _ => rfl
set_option maxRecDepth 100000 in
theorem cRUint2 (w : World) (x : Nat) (hx : x < 4294967296) :
    Calls Tryz.prog 96 #[.int .u64 x, .int .i64 2] w fun e w' => ∃ r, e = .returned r ∧ New w w' 5 r (u8s (Oct.be 2 x)) := by
  have hmk := make8_2
  have h0 : Sts w [rowP 5 1 (.slice (some ⟨w.heap.size, 0, none⟩) 2 2) 2 (u8s (List.replicate 2 0))] (w.alloc (.cells #[.int .u8 0, .int .u8 0] 5)) :=
    ((Sts.nil w).alloc stab0 (.cells #[.int .u8 0, .int .u8 0] 5)).weaken (fun F h => blkP.row h (by simp))
  have H0 := hid h0
  clear h0
  go_enter Tryz.func96, Tryz.ntmps96
  go_wp2_with fail
  clear hmk
  go_loopw [0, 6] (fun n i wr => ∃ m : Nat, m ≤ 2 ∧ i = .int .i64 (1 - (m : Int)) ∧ n = .int .u64 (x / 256 ^ m : Nat) ∧ Sts w [rowP 5 1 (.slice (some ⟨w.heap.size, 0, none⟩) 2 2) 2 (u8s (List.replicate (2 - m) 0 ++ Oct.be m x))] wr) (fun _ i _ => (intOf i + 1).toNat)
  case atStart => exact ⟨0, by omega, rfl, by simp, by simpa [Oct.be] using H0.out⟩
  case round =>
    obtain ⟨m, hm, rfl, rfl, hs⟩ := hrel
    by_cases hlt : m < 2
    · have hb0 : (0 : Int) ≤ 1 - (m : Int) := by omega
      have hb1 : (1 - (m : Int)).toNat = 1 - m := by omega
      have hb2 : 1 - (m : Int) < 2 := by omega
      have hf := Sts.rowFree hs (1 - m)
      have hlen : (u8s (List.replicate (2 - m) 0 ++ Oct.be m x)).length = 2 := by rw [u8s_len]; simp [Oct.be_len]; omega
      obtain ⟨old, hold⟩ : ∃ old, (u8s (List.replicate (2 - m) 0 ++ Oct.be m x))[1 - m]? = some old := ⟨_, List.getElem?_eq_getElem (by rw [hlen]; omega)⟩
      have hcell := Sts.rowCell hs (1 - m) (by omega) _ hold
      clear hold
      have hdiv : (x / 256 ^ m) / 256 = x / 256 ^ (m + 1) := by rw [Nat.div_div_eq_div_mul, Nat.pow_succ]
      have hxm : x / 256 ^ m < 4294967296 := Nat.lt_of_le_of_lt (Nat.div_le_self _ _) hx
      have hst := Sts.rowStore stab0 hs (1 - m) (.int .u8 (x / 256 ^ m % 256 : Nat))
      have e : (u8s (List.replicate (2 - m) 0 ++ Oct.be m x)).set (1 - m) (Value.int .u8 ((x / 256 ^ m % 256 : Nat) : Int)) = u8s (List.replicate (2 - (m + 1)) 0 ++ Oct.be (m + 1) x) := by
        rw [← be_step2 x m hlt]; simp [u8s, List.map_set]
      rw [e] at hst
      have HD := hid hdiv
      have HST := hid hst
      clear hdiv hst e hs hlen
      generalize x / 256 ^ m = y at *
      go_wp2_with fail
      go_roundw
      case rel => exact ⟨m + 1, by omega, val_int (by omega), by rw [← HD.out]; exact val_int (by omega), by first | exact HST.out | (have := HST.out; simpa using this)⟩
      case measure => simp [intOf]; omega
    · obtain rfl : m = 2 := by omega
      go_wp2_with fail
      go_ret
      have e : List.replicate (2 - 2) 0 ++ Oct.be 2 x = Oct.be 2 x := by simp
      rw [e] at hs
      exact ⟨_, rfl, New.of_sts hs (by simp [u8s, Oct.be_len])⟩
set_option maxRecDepth 100000 in
set_option maxHeartbeats 4000000 in
theorem cREncode (w : World) (src num sv : Nat) (aa : Option Addr) (ca : Nat) (args : List Int) (ad : Option Addr) (cd : Nat) (data : List Nat) (h1 : src ≤ 15) (h2 : num ≤ 65535) (hR : Rd w (.slice aa args.length ca) (i64s args)) (hD : RdB w (.slice ad data.length cd) data) (hN : data.length < 100000) (hnl : ad = none → cd = 0) (hok : Cmd.cmdOk (sv : Int) args data.length = true) :
    Calls Tryz.prog 66 #[.agg (cmdV (src : Int) (num : Int) (sv : Int) (.slice aa args.length ca) (.slice ad data.length cd))] w fun e w' => ∃ r, e = .returned r ∧ New w w' 5 r (u8s (Cmd.enc src num sv args data)) := by
  have HS : Hid (Sts w (blkP w.heap.size (.cells (cmdV (src : Int) (num : Int) (sv : Int) (.slice aa args.length ca) (.slice ad data.length cd)) 39 (0, 0)) :: []) (w.alloc (.cells (cmdV (src : Int) (num : Int) (sv : Int) (.slice aa args.length ca) (.slice ad data.length cd)) 39))) := hid (Sts.alloc stab0 (Sts.nil w) _)
  have HLB : Hid (∀ B ∈ [blkP w.heap.size (.cells (cmdV (src : Int) (num : Int) (sv : Int) (.slice aa args.length ca) (.slice ad data.length cd)) 39 (0, 0))], Stable B) := hid (stabC (blkP_stable _ _) stab0)
  have hok2 := hok
  unfold Cmd.cmdOk at hok2
  simp only [Bool.and_eq_true, decide_eq_true_eq] at hok2
  obtain ⟨hs0, hlen, hall, hdat⟩ := hok2
  unfold Cmd.isS at hs0
  simp only [Bool.and_eq_true, decide_eq_true_eq] at hs0
  obtain ⟨hs1, hs2⟩ := hs0
  have hA3 := Cmd.argN_le (sv : Int)
  rw [← hlen] at hA3
  have HALL := hid (List.all_eq_true.1 hall)
  have HBL := hid (Cmd.argsB_len args HALL.out)
  have HDT : Hid (Cmd.enc src num sv args data = Oct.be 1 src ++ Oct.be 2 num ++ [sv] ++ Cmd.argsB args ++ (if 0 < data.length then Cmd.blobB data else [])) := hid (by
    have e1 : Oct.be 1 sv = [sv] := by show [sv / 2 ^ (8 * 0) % 256] = [sv]; simp; omega
    unfold Cmd.enc
    rw [e1]
    congr 1
    by_cases hd : Cmd.datN (sv : Int) = 1
    · rw [if_pos hd] at hdat ⊢
      simp only [Bool.and_eq_true, decide_eq_true_eq] at hdat
      rw [if_pos (by omega)]
    · rw [if_neg hd] at hdat ⊢
      rw [if_neg (by simp only [decide_eq_true_eq] at hdat; omega)])
  have HR := hid hR
  have HDD := hid hD
  have HNL := hid hnl
  have HNN := hid hN
  have HA3 := hid hA3
  have g1 : IntKind.u64.wrap (src : Int) = (src : Int) := by rw [IntKind.wrap_u64]; omega
  have g2 : IntKind.u64.wrap (num : Int) = (num : Int) := by rw [IntKind.wrap_u64]; omega
  have g3 : IntKind.u8.wrap (sv : Int) = (sv : Int) := by rw [IntKind.wrap_u8]; omega
  have HC : ∀ y L, Sts w (blkP w.heap.size (.cells (cmdV (src : Int) (num : Int) (sv : Int) (.slice aa args.length ca) (.slice ad data.length cd)) 39 (0, 0)) :: L) y → y.cell? ⟨w.heap.size, 0, none⟩ = some (.int .i64 (src : Int)) ∧ y.cell? ⟨w.heap.size, 1, none⟩ = some (.int .i64 (num : Int)) := fun y L hy => ⟨(Sts.boxCell hy 0 _ rfl).1, (Sts.boxCell hy 1 _ rfl).1⟩
  have HSRC := hid (And.intro h1 h2)
  clear hR hD hnl hok hlen hall hdat hs1 hs2 hA3 hN h1 h2
  go_enter Tryz.func66, Tryz.ntmps66
  go_wp2_with fail
  refine wp_region_ordQ (.pure 0 (.pure 1 (.pure 2 (.pure 4 (.pure 5 (.pure 6 (.eff 3 (.eff 7 (.eff 8 (.pure 9 .nil)))))))))) (fun y => y.cell? ⟨w.heap.size, 0, none⟩ = some (.int .i64 (src : Int)) ∧ y.cell? ⟨w.heap.size, 1, none⟩ = some (.int .i64 (num : Int))) (fun y => Sts w [blkP w.heap.size (.cells (cmdV (src : Int) (num : Int) (sv : Int) (.slice aa args.length ca) (.slice ad data.length cd)) 39 (0, 0))] y) (by kernel_rfl) (by kernel_rfl) (HS.out.drew HLB.out) (fun y hy => HC y _ hy) ?_
  iterate 6
    (apply ordq_pure (ho := rfl)
     · go_simp
     · intro x hx; obtain ⟨k0, k1⟩ := hx; go_simp; rfl
     apply ordq_norm
     · go_simp; rfl)
  apply ordq_eff (ho := rfl)
  · go_simp
  intro y hy
  refine eff_call (f := 96) (by go_simp) (cRUint1 y src (by have := HSRC.out.1; omega)) ?_
  rintro e w3 ⟨r1, rfl, h3⟩
  have h4 := Sts.new HLB.out hy h3
  rw [u8s_len] at h4
  refine ⟨_, rfl, (fun y => y.cell? ⟨w.heap.size, 0, none⟩ = some (.int .i64 (src : Int)) ∧ y.cell? ⟨w.heap.size, 1, none⟩ = some (.int .i64 (num : Int))), (fun y => Sts w (rowP 5 1 r1 (Oct.be 1 src).length (u8s (Oct.be 1 src)) :: [blkP w.heap.size (.cells (cmdV (src : Int) (num : Int) (sv : Int) (.slice aa args.length ca) (.slice ad data.length cd)) 39 (0, 0))]) y), h4, (fun y hy => HC y _ hy.tail), (fun _ h => h), ?_⟩
  clear h3 h4 hy y
  apply ordq_norm
  · go_simp; rfl
  apply ordq_eff (ho := rfl)
  · go_simp
  intro y hy
  refine eff_call (f := 96) (by go_simp) (cRUint2 y num (by have := HSRC.out.2; omega)) ?_
  rintro e w3 ⟨r2, rfl, h3⟩
  have h4 := Sts.new (stabC (rowP_stable _ _ _ _ _) HLB.out) hy h3
  rw [u8s_len] at h4
  refine ⟨_, rfl, (fun y => y.cell? ⟨w.heap.size, 0, none⟩ = some (.int .i64 (src : Int)) ∧ y.cell? ⟨w.heap.size, 1, none⟩ = some (.int .i64 (num : Int))), (fun y => Sts w (rowP 5 1 r2 (Oct.be 2 num).length (u8s (Oct.be 2 num)) :: rowP 5 1 r1 (Oct.be 1 src).length (u8s (Oct.be 1 src)) :: [blkP w.heap.size (.cells (cmdV (src : Int) (num : Int) (sv : Int) (.slice aa args.length ca) (.slice ad data.length cd)) 39 (0, 0))]) y), h4, (fun y hy => HC y _ hy.tail.tail), (fun _ h => h), ?_⟩
  clear h3 h4 hy y
  apply ordq_norm
  · go_simp; rfl
  apply ordq_eff (ho := rfl)
  · go_simp
  intro y hy
  refine eff_app8 (stabC (rowP_stable _ _ _ _ _) HLB.out) hy.swap (.tmp 8) (.tmp 12) rfl ?_ ?_ (Sts.rdRow hy (u8s_len _)) (NilOk.own hy.rowOwn) (by simp [Oct.be_len]) (fun y v' hy => HC y _ hy.tail.tail) ?_
  · go_simp
  · go_simp
  intro r3
  apply ordq_norm
  · go_simp; rfl
  clear hy y
  apply ordq_pure (ho := rfl)
  · go_simp
  · intro x hx; go_simp; rfl
  apply ordq_norm
  · go_simp; rfl
  refine ordq_nil fun z hz => ?_
  obtain ⟨p0, hp0⟩ : ∃ p0, p0 = Oct.be 1 src ++ Oct.be 2 num := ⟨_, rfl⟩
  have hz2 : Sts w (rowP 5 1 r3 p0.length (u8s p0) :: [blkP w.heap.size (.cells (cmdV (src : Int) (num : Int) (sv : Int) (.slice aa args.length ca) (.slice ad data.length cd)) 39 (0, 0))]) z := by
    have h := hz.swap.tail
    rw [← List.length_append, ← hp0] at h
    exact h
  have hp3 : p0.length = 3 := by rw [hp0]; simp [Oct.be_len]
  have HP0 := hid hp0
  obtain ⟨a3, c3, rfl⟩ := own_slice hz2.rowOwn
  obtain ⟨h1, hR1⟩ := Sts.oneNew HLB.out hz2 sv
  have H1 := hid h1
  have HR1 := hid hR1
  have f2 : z.cell? ⟨w.heap.size, 2, none⟩ = some (.int .i64 (sv : Int)) := (Sts.boxCell hz2.tail 2 _ rfl).1
  obtain ⟨pre, hpre⟩ : ∃ pre, pre = p0 ++ [sv] := ⟨_, rfl⟩
  have hpl : pre.length = 4 := by rw [hpre, List.length_append, hp3]; rfl
  have HPRE := hid hpre
  clear hz hz2 h1 hR1 hp0 hpre HC
  go_wp2_with (first
    | (at_builtin; refine wpList_app8 rfl (.tmp 14) (.tmp 18) rfl H1.out (stabC (blkP_stable _ _) HLB.out) rfl rfl HR1.out (by intro c hc; cases hc) (by simp [hp3]) ?_; intro v1 w1 h2
       have h3 := h2.swap.tail
       rw [← List.length_append, ← HPRE.out] at h3
       have H3 := hid h3
       clear h2 h3))
  go_loopw [3, 4] (fun o i wr => ∃ k : Nat, k ≤ args.length ∧ i = .int .i64 (k : Int) ∧ Sts w (rowP 5 1 o (pre ++ Cmd.argsB (args.take k)).length (u8s (pre ++ Cmd.argsB (args.take k))) :: [blkP w.heap.size (.cells (cmdV (src : Int) (num : Int) (sv : Int) (.slice aa args.length ca) (.slice ad data.length cd)) 39 (0, 0))]) wr) (fun o i _ => args.length - (intOf i).toNat)
  case atStart => exact ⟨0, Nat.zero_le _, rfl, by simpa [Cmd.argsB] using H3.out⟩
  case round =>
    obtain ⟨k, hk, rfl, hs⟩ := hrel
    have hbl : (pre ++ Cmd.argsB (args.take k)).length ≤ 100 := by
      have h1 := Cmd.argsB_len (args.take k) (fun a ha => HALL.out a (List.mem_of_mem_take ha))
      have h2 := HA3.out
      have h3 : (args.take k).length ≤ args.length := by rw [List.length_take]; omega
      rw [List.length_append]; omega
    have e3 : wr.cell? ⟨w.heap.size, 3, none⟩ = some (.slice aa args.length ca) := (Sts.boxCell hs.tail 3 _ rfl).1
    have e4 : wr.cell? ⟨w.heap.size, 4, none⟩ = some (.slice ad data.length cd) := (Sts.boxCell hs.tail 4 _ rfl).1
    obtain ⟨oa, oc, rfl⟩ := own_slice hs.rowOwn
    by_cases hlt : k < args.length
    · obtain ⟨a0, c9, e0, hc0, hx⟩ := HR.out.below hs.below
      obtain ⟨b0, off, e1, hb0, hx0⟩ := hx k (by rw [i64s_len]; exact hlt)
      injection e0 with e2 q3 q4
      subst e2
      subst e1
      have hcell : wr.cell? ⟨b0, off + k, none⟩ = some (.int .i64 args[k]) := by rw [hx0]; simp [i64s]
      have hmem : args[k] ∈ args := List.getElem_mem hlt
      have htk : args.take (k + 1) = args.take k ++ [args[k]] := List.take_succ_eq_append_getElem hlt
      have hir := Cmd.inR_iff (HALL.out _ hmem)
      have hv6 := Cmd.vint_len 5 _ (show Cmd.zig args[k] < 128 ^ (5 + 1) by have := Cmd.zig_lt args[k] hir.1 hir.2; omega)
      clear hx hx0 q3 q4 hc0 hmem
      have hk0 : (0 : Int) ≤ (k : Int) := Int.natCast_nonneg _
      have hk1 : (k : Int) < ((args.length : Nat) : Int) := by omega
      have hkk : k < 100 := by have := HA3.out; omega
      have HW := hid (cRInt wr args[k] hir.1 hir.2)
      have HTK := hid (show (pre ++ Cmd.argsB (args.take k)) ++ Cmd.vint (Cmd.zig args[k]) = pre ++ Cmd.argsB (args.take (k + 1)) by rw [htk, Cmd.argsB_app]; simp [Cmd.argsB])
      have HSX := hid hs
      clear htk hir hs
      generalize Cmd.vint (Cmd.zig args[k]) = zs at *
      generalize args[k] = x at *
      generalize pre ++ Cmd.argsB (args.take k) = acc at *
      go_wp2_with (first
        | (go_at_call 161; refine HW.out.mono ?_; rintro e w5 ⟨r5, rfl, h5⟩
           have h6 := Sts.new (stabC (rowP_stable _ _ _ _ _) HLB.out) HSX.out h5
           rw [u8s_len] at h6
           have H6 := hid h6
           clear h5 h6)
        | (at_builtin; refine wpList_app8 rfl (.tmp 27) (.tmp 33) rfl H6.out.swap (stabC (rowP_stable _ _ _ _ _) HLB.out) rfl rfl (Sts.rdRow H6.out (u8s_len _)) (NilOk.own H6.out.rowOwn) (by omega) ?_; intro v7 w7 h7
           have h8 := h7.swap.tail
           rw [← List.length_append, HTK.out] at h8
           have H8 := hid h8
           clear h7 h8))
      go_roundw
      case rel => exact ⟨k + 1, by omega, by first | rfl | go_num, H8.out⟩
      case measure => simp [intOf]; omega
    · have hs2 : Sts w (rowP 5 1 (.slice oa (pre ++ Cmd.argsB (args.take k)).length oc) (pre ++ Cmd.argsB args).length (u8s (pre ++ Cmd.argsB args)) :: [blkP w.heap.size (.cells (cmdV (src : Int) (num : Int) (sv : Int) (.slice aa args.length ca) (.slice ad data.length cd)) 39 (0, 0))]) wr := by
        have h := hs
        rw [List.take_of_length_le (by omega)] at h ⊢
        exact h
      rw [List.take_of_length_le (by omega)] at hbl
      rw [List.take_of_length_le (by omega : args.length ≤ k)] at *
      have HSX := hid hs2
      clear hs hs2
      have HX : Hid (Cmd.enc src num sv args data = (pre ++ Cmd.argsB args) ++ (if 0 < data.length then Cmd.blobB data else [])) := hid (by rw [HDT.out, HPRE.out, HP0.out])
      generalize pre ++ Cmd.argsB args = acc at *
      have d9 : decide ((k : Int) < ((args.length : Nat) : Int)) = false := decide_eq_false (by omega)
      by_cases hd : 0 < data.length
      · have d8 : decide (0 < ((data.length : Nat) : Int)) = true := decide_eq_true (by omega)
        have HX2 : Hid (Cmd.enc src num sv args data = acc ++ Cmd.blobB data) := hid (by rw [HX.out, if_pos hd])
        have hbb := Cmd.blobB_len data (by have := HNN.out; omega)
        have HB := hid (cRBlob wr ad cd data (by have := HNN.out; omega) HNL.out (HDD.out.below HSX.out.below))
        have HNN2 := HNN.out
        generalize Cmd.blobB data = bl at *
        go_wp2_with (first
          | (go_at_call 162; refine HB.out.mono ?_; rintro e w5 ⟨r5, rfl, h5⟩
             have h6 := Sts.new (stabC (rowP_stable _ _ _ _ _) HLB.out) HSX.out h5
             rw [u8s_len] at h6
             have H6 := hid h6
             clear h5 h6)
          | (at_builtin; refine wpList_app8 rfl (.tmp 39) (.tmp 42) rfl H6.out.swap (stabC (rowP_stable _ _ _ _ _) HLB.out) rfl rfl (Sts.rdRow H6.out (u8s_len _)) (NilOk.own H6.out.rowOwn) (by omega) ?_; intro v7 w7 h7
             have h8 := h7.swap.tail.swap.tail
             rw [← List.length_append, ← HX2.out] at h8
             have H8 := hid h8
             clear h7 h8))
        go_ret
        exact ⟨_, rfl, New.of_sts H8.out (u8s_len _)⟩
      · have d8 : decide (0 < ((data.length : Nat) : Int)) = false := decide_eq_false (by omega)
        have HX2 : Hid (Cmd.enc src num sv args data = acc) := hid (by rw [HX.out, if_neg hd, List.append_nil])
        go_wp2_with fail
        go_ret
        exact ⟨_, rfl, by rw [HX2.out]; exact New.of_sts HSX.out.swap.tail (u8s_len _)⟩
end Go.Proofs.YtnklmadmenkdoaaGreat
