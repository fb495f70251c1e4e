/- The specification's packet of telemetry, encoded. The specification's time code of five bytes. The specification's telemetry packet and acknowledgement. -/
import Derived.Test.YtnklmadmenkdoaaGreatQSdpJ
import Derived.Test.YtnklmadmenkdoaaGreatQSndN
import Derived.Test.YtnklmadmenkdoaaGreatQSdpTk
import Derived.Test.YtnklmadmenkdoaaGreatQSnrC
import Derived.Test.YtnklmadmenkdoaaGreatQSnrA
import Derived.Test.YtnklmadmenkdoaaGreatQSnrK
import Derived.Test.YtnklmadmenkdoaaGreatQSdpM
set_option linter.unusedVariables false
set_option linter.unusedSimpArgs false
namespace Go.Proofs.YtnklmadmenkdoaaGreat
open Go.RowKit Go.Proofs.Num
theorem tel_facts (a c n : Nat) (ha : a < 256) (hc : c ≤ 16383) (h1 : 1 ≤ n) (hn : n ≤ 4090) : ∃ F K M A B C E X Y : Nat, (A = 8 ∧ B = a ∧ C = (49152 + c) / 256 ∧ E = (49152 + c) % 256 ∧ X = (n - 1) / 256 ∧ Y = (n - 1) % 256) ∧
    wrap64 ((a : Int) + 2048) = (F : Int) ∧ wrap64 (49152 + (c : Int)) = (K : Int) ∧ wrap64 ((n : Int) - 1) = (M : Int) ∧
    (F : Int) / 256 = (A : Int) ∧ (F : Int) % 256 = (B : Int) ∧ (K : Int) / 256 = (C : Int) ∧ (K : Int) % 256 = (E : Int) ∧ (M : Int) / 256 = (X : Int) ∧ (M : Int) % 256 = (Y : Int) ∧
    wrap64 (A : Int) = (A : Int) ∧ wrap64 (C : Int) = (C : Int) ∧ wrap64 (X : Int) = (X : Int) ∧
    (A : Int) % 256 = (A : Int) ∧ (B : Int) % 256 = (B : Int) ∧ (C : Int) % 256 = (C : Int) ∧ (E : Int) % 256 = (E : Int) ∧ (X : Int) % 256 = (X : Int) ∧ (Y : Int) % 256 = (Y : Int) := by
  have w : ∀ k : Nat, k < 500000 → wrap64 (k : Int) = (k : Int) := by intro k hk; unfold wrap64; omega
  refine ⟨2048 + a, 49152 + c, n - 1, 8, a, (49152 + c) / 256, (49152 + c) % 256, (n - 1) / 256, (n - 1) % 256, ⟨rfl, rfl, rfl, rfl, rfl, rfl⟩, ?_, ?_, ?_, ?_, ?_, ?_, ?_, ?_, ?_, w _ (by omega), w _ (by omega), w _ (by omega), rfl, ?_, ?_, ?_, ?_, ?_⟩
  · unfold wrap64; omega
  · unfold wrap64; omega
  · unfold wrap64; omega
  · omega
  · omega
  · omega
  · omega
  · omega
  · omega
  all_goals exact Int.emod_eq_of_lt (by omega) (by omega)
set_option maxRecDepth 100000 in
set_option maxHeartbeats 4000000 in
theorem cR10Bytes (w : World) (a c : Nat) (d : List Nat) (da : Option Addr) (dc n : Nat) (ha : a < 256) (hc : c ≤ 16383) (h1 : 1 ≤ n) (hn : n ≤ 4090) (hdn : d.length = n) (hd : RdB w (.slice da n dc) d) (hv : NilOk (.slice da n dc)) :
    Calls Tryz.prog 172 #[.agg (pkV false true a 3 c (.slice da n dc))] w fun e w' => ∃ r, e = .returned r ∧ New w w' 5 r (u8s (Pkt.tel a c d)) := by
  have HS : Hid (Sts w (blkP w.heap.size (.cells (pkV false true a 3 c (.slice da n dc)) 50 (0, 0)) :: []) (w.alloc (.cells (pkV false true a 3 c (.slice da n dc)) 50))) := hid (Sts.alloc stab0 (Sts.nil w) _)
  have HLB : Hid (∀ B ∈ [blkP w.heap.size (.cells (pkV false true a 3 c (.slice da n dc)) 50 (0, 0))], Stable B) := hid (stabC (blkP_stable _ _) stab0)
  obtain ⟨F, K, M, A, B, C, E, X, Y, hall, f1, f2, f3, f4, f5, f6, f7, f8, f9, f10, f11, f12, f13, f14, f15, f16, f17, f18⟩ := tel_facts a c n ha hc h1 hn
  have HT : Hid ([A, B, C, E, X, Y] ++ d = Pkt.tel a c d) := hid (by obtain ⟨e1, e2, e3, e4, e5, e6⟩ := hall; subst e1; subst e2; subst e3; subst e4; subst e5; subst e6; subst hdn; rfl)
  have HD := hid hd
  have HV := hid hv
  have HLN : Hid (([A, B, C, E, X, Y] : List Nat).length + d.length < 1000000000) := hid (by clear f1 f2 f3 f4 f5 f6 f7 f8 f9 f10 f11 f12 f13 f14 f15 f16 f17 f18; simp; omega)
  have c0 := (Sts.boxCell HS.out 0 _ rfl).1
  have c1 := (Sts.boxCell HS.out 1 _ rfl).1
  have c2 := (Sts.boxCell HS.out 2 _ rfl).1
  have c3 := (Sts.boxCell HS.out 3 _ rfl).1
  have c4 := (Sts.boxCell HS.out 4 _ rfl).1
  have c5 := (Sts.boxCell HS.out 5 _ rfl).1
  have h2 := Sts.weaken (Sts.alloc HLB.out HS.out (.cells #[.int .u8 (A : Int), .int .u8 (B : Int), .int .u8 (C : Int), .int .u8 (E : Int), .int .u8 (X : Int), .int .u8 (Y : Int)] 5)) (fun F h => blkP.row h (show 6 ≤ 1000000 by decide))
  have c6 := (Sts.boxCell h2.tail 5 _ rfl).1
  have hsz : (w.alloc (.cells (pkV false true a 3 c (.slice da n dc)) 50)).heap.size = w.heap.size + 1 := Array.size_push _
  rw [hsz] at h2
  have H2 := hid (show Sts w (rowP 5 1 (.slice (some ⟨w.heap.size + 1, 0, none⟩) 6 6) [A, B, C, E, X, Y].length (u8s [A, B, C, E, X, Y]) :: [blkP w.heap.size (.cells (pkV false true a 3 c (.slice da n dc)) 50 (0, 0))]) ((w.alloc (.cells (pkV false true a 3 c (.slice da n dc)) 50)).alloc (.cells #[.int .u8 (A : Int), .int .u8 (B : Int), .int .u8 (C : Int), .int .u8 (E : Int), .int .u8 (X : Int), .int .u8 (Y : Int)] 5)) from h2)
  have HR := hid (HD.out.1.below h2.below)
  clear hd hv ha hc h1 hn hall h2 hdn hsz
  have G := hid (And.intro f4 (And.intro f5 (And.intro f6 (And.intro f7 (And.intro f8 f9)))))
  have GW := hid (And.intro f10 (And.intro f11 f12))
  clear f4 f5 f6 f7 f8 f9 f10 f11 f12
  unfold pkV at *
  go_enter Tryz.func172, Tryz.ntmps172
  go_wp2_with (first
    | (at_builtin; simp only [G.out.1, G.out.2.1, G.out.2.2.1, G.out.2.2.2.1, G.out.2.2.2.2.1, G.out.2.2.2.2.2, GW.out.1, GW.out.2.1, GW.out.2.2, f13, f14, f15, f16, f17, f18]; refine wpList_app8 (l := [A, B, C, E, X, Y]) rfl (.tmp 44) (.tmp 46) rfl H2.out HLB.out rfl rfl HR.out HV.out HLN.out ?_; intro v1 w2 h3; have H3 := hid h3; clear h3))
  go_ret
  refine ⟨_, rfl, ?_⟩
  have h4 := H3.out.swap.tail
  rw [← List.length_append, HT.out] at h4
  exact New.of_sts h4 (u8s_len _)
set_option maxRecDepth 100000 in
theorem cR10ValidT (w : World) (a c : Nat) (da : Option Addr) (dc n : Nat) (ha : a < 256) (hc : c ≤ 16383) (h4 : 1 ≤ n) (h5 : n ≤ 4090) : Calls Tryz.prog 61 #[.agg (pkV false true a 3 c (.slice da n dc))] w fun e w' => e = .returned (.bool true) ∧ Below w.heap.size w w' := by
  have HB : Hid (Below w.heap.size w (w.alloc (.cells (pkV false true a 3 c (.slice da n dc)) 50))) := hid ((Below.refl _ _).alloc (Nat.le_refl _) _)
  have d1 : decide ((a : Int) < 0) = false := decide_eq_false (by omega)
  have d2 : decide (2047 < (a : Int)) = false := decide_eq_false (by omega)
  have d5 : decide ((c : Int) < 0) = false := decide_eq_false (by omega)
  have d6 : decide (16383 < (c : Int)) = false := decide_eq_false (by omega)
  have d7 : decide ((n : Int) < 1) = false := decide_eq_false (by omega)
  have d8 : decide (4090 < (n : Int)) = false := decide_eq_false (by omega)
  have d9 : ((a : Int) != 2047) = true := by rw [bne_iff_ne]; omega
  clear ha hc h4 h5
  unfold pkV at *
  go_enter Tryz.func61, Tryz.ntmps61
  go_wp2_with fail
  go_ret
  exact ⟨rfl, HB.out⟩
set_option maxRecDepth 100000 in
set_option maxHeartbeats 2000000 in
theorem cR10EncodeT (w : World) (a c : Nat) (d : List Nat) (da : Option Addr) (dc n : Nat) (ha : a < 256) (hc : c ≤ 16383) (h1 : 1 ≤ n) (hn : n ≤ 4090) (hdn : d.length = n) (hd : RdB w (.slice da n dc) d) (hv : NilOk (.slice da n dc)) :
    Calls Tryz.prog 75 #[.agg (pkV false true a 3 c (.slice da n dc))] w fun e w' => ∃ r, e = .returned (.tuple #[r, .int .i64 0]) ∧ New w w' 5 r (u8s (Pkt.tel a c d)) := by
  have HS : Hid (Sts w (blkP w.heap.size (.cells (pkV false true a 3 c (.slice da n dc)) 50 (0, 0)) :: []) (w.alloc (.cells (pkV false true a 3 c (.slice da n dc)) 50))) := hid (Sts.alloc stab0 (Sts.nil w) _)
  have HLB : Hid (∀ B ∈ [blkP w.heap.size (.cells (pkV false true a 3 c (.slice da n dc)) 50 (0, 0))], Stable B) := hid (stabC (blkP_stable _ _) stab0)
  have KV := hid (fun y => cR10ValidT y a c da dc n ha hc h1 hn)
  have KB := hid (show ∀ y : World, Below w.heap.size w y → _ from fun y hy => cR10Bytes y a c d da dc n ha hc h1 hn hdn (hd.below hy) hv)
  have l1 := ldPk rfl HS.out
  clear hd hv ha hc h1 hn hdn
  go_enter Tryz.func75, Tryz.ntmps75
  go_wp2_with (first
    | (refine wpList_ldS rfl (.tmp 1) 50 rfl rfl (.agg (pkV false true a 3 c (.slice da n dc))) l1 ?_)
    | (go_at_call 61; refine (KV.out _).mono ?_; rintro e w1 ⟨rfl, hb1⟩; have H1 := hid (HS.out.quiet HLB.out hb1); have l2 := ldPk rfl H1.out; clear hb1)
    | (refine wpList_ldS rfl (.tmp 1) 50 rfl rfl (.agg (pkV false true a 3 c (.slice da n dc))) l2 ?_)
    | (go_at_call 172; refine (KB.out _ H1.out.below).mono ?_; rintro e w2 ⟨r, rfl, h2⟩; have H2 := hid (h2.of H1.out.below); clear h2))
  go_ret2
  exact ⟨_, rfl, H2.out⟩
end Go.Proofs.YtnklmadmenkdoaaGreat
namespace Go.Proofs.YtnklmadmenkdoaaGreat
open Go.RowKit Go.Proofs.Num
def fmt41 : Array Value := #[.int .i64 4, .int .i64 1]
theorem infoFm : (Tryz.prog.info? 276).map (·.size) = some 2 := by kernel_rfl
theorem ldFm {W w : World} {l : List HProp} {b : Nat} {cs : Array Value} (hs : cs.size = 2) (h : Sts W (blkP b (.cells cs 276 (0, 0)) :: l) w) : (loadVar 276 ⟨b, 0, none⟩).run Tryz.prog w = .ok (.agg cs) w := by
  have hb : w.heap[b]? = some (.cells cs 276 (0, 0)) := by obtain ⟨F, hF⟩ := h.head; exact hF.1
  exact run_loadVar_row (P := Tryz.prog) w b 276 276 cs (0, 0) _ hb Tryz.underlying276 rfl (by rw [infoFm, hs])
set_option maxRecDepth 100000 in
theorem cR05Valid (w : World) : Calls Tryz.prog 234 #[.agg fmt41] w fun e w' => e = .returned (.bool true) ∧ Below w.heap.size w w' := by
  have HB : Hid (Below w.heap.size w (w.alloc (.cells fmt41 276))) := hid ((Below.refl _ _).alloc (Nat.le_refl _) _)
  unfold fmt41 at *
  go_enter Tryz.func234, Tryz.ntmps234
  go_wp2_with fail
  go_ret
  exact ⟨rfl, HB.out⟩
set_option maxRecDepth 100000 in
set_option maxHeartbeats 1000000 in
theorem cR05most (w : World) : Calls Tryz.prog 235 #[.agg fmt41] w fun e w' => e = .returned (.int .i64 1099511627775) ∧ Below w.heap.size w w' := by
  have HS : Hid (Sts w (blkP w.heap.size (.cells fmt41 276 (0, 0)) :: []) (w.alloc (.cells fmt41 276))) := hid (Sts.alloc stab0 (Sts.nil w) _)
  have c0 := (Sts.boxCell HS.out 0 (.int .i64 4) rfl).1
  have c1 := (Sts.boxCell HS.out 1 (.int .i64 1) rfl).1
  unfold fmt41 at *
  go_enter Tryz.func235, Tryz.ntmps235
  go_wp2_with fail
  go_loopw [3, 4] (fun n i wr => ∃ m : Nat, m ≤ 4 ∧ i = .int .i64 (m : Int) ∧ n = .int .i64 ((256 * 256 ^ m : Nat) : Int) ∧ wr = w.alloc (.cells #[.int .i64 4, .int .i64 1] 276)) (fun _ i _ => 4 - (intOf i).toNat)
  case atStart => exact ⟨0, by omega, rfl, rfl, rfl⟩
  case round =>
    obtain ⟨m, hm, rfl, rfl, rfl⟩ := hrel
    have hm5 : m = 0 ∨ m = 1 ∨ m = 2 ∨ m = 3 ∨ m = 4 := by omega
    rcases hm5 with rfl | rfl | rfl | rfl | rfl
    · go_wp2_with fail
      go_roundw
      case rel => exact ⟨1, by omega, rfl, rfl, by first | rfl | trivial⟩
      case measure => simp [intOf]
    · go_wp2_with fail
      go_roundw
      case rel => exact ⟨2, by omega, rfl, rfl, by first | rfl | trivial⟩
      case measure => simp [intOf]
    · go_wp2_with fail
      go_roundw
      case rel => exact ⟨3, by omega, rfl, rfl, by first | rfl | trivial⟩
      case measure => simp [intOf]
    · go_wp2_with fail
      go_roundw
      case rel => exact ⟨4, by omega, rfl, rfl, by first | rfl | trivial⟩
      case measure => simp [intOf]
    · go_wp2_with fail
      go_ret
      exact ⟨rfl, HS.out.below⟩
theorem tm_facts (t : Nat) (h : t < 1099511627776) : ∃ T Q : Nat, T = t / 256 ∧ Q = t % 256 ∧ (t : Int) / 256 = (T : Int) ∧ (t : Int) % 256 = (Q : Int) ∧ wrap64 (T : Int) = (T : Int) ∧ (Q : Int) % 256 = (Q : Int) ∧ T < 4294967296 := by
  refine ⟨t / 256, t % 256, rfl, rfl, ?_, ?_, ?_, Int.emod_eq_of_lt (by omega) (by omega), by omega⟩
  · omega
  · omega
  · unfold wrap64; omega
theorem be_head (m T : Nat) : Oct.be (m + 1) T = (T / 256 ^ m % 256) :: Oct.be m T := by
  rw [Oct.be, Nat.pow_mul]
theorem be_tc (t : Nat) : Oct.be 4 (t / 256) ++ [t % 256] = tcR t := by
  simp [Oct.be, tcR]
theorem step_facts (N : Nat) (h : N < 4294967296) : ∃ L H : Nat, L = N % 256 ∧ H = N / 256 ∧ (N : Int) / 256 = (H : Int) ∧ (N : Int) % 256 = (L : Int) ∧ wrap64 (H : Int) = (H : Int) ∧ (L : Int) % 256 = (L : Int) := by
  refine ⟨N % 256, N / 256, rfl, rfl, ?_, ?_, ?_, Int.emod_eq_of_lt (by omega) (by omega)⟩
  · omega
  · omega
  · unfold wrap64; omega
theorem oneRow {W w : World} {l : List HProp} (hl : ∀ B ∈ l, Stable B) (h : Sts W l w) (x : Nat) : Sts W (rowP 5 1 (.slice (some ⟨w.heap.size, 0, none⟩) 1 1) [x].length (u8s [x]) :: l) (w.alloc (.cells #[.int .u8 (x : Int)] 5)) :=
  Sts.weaken (Sts.alloc hl h (.cells #[.int .u8 (x : Int)] 5)) (fun F h => blkP.row h (show 1 ≤ 1000000 by decide))
set_option maxRecDepth 100000 in
set_option maxHeartbeats 8000000 in
theorem cR05Encode (w : World) (t : Nat) (ht : t < 1099511627776) : Calls Tryz.prog 163 #[.int .i64 (t : Int), .agg fmt41] w fun e w' => ∃ r, e = .returned (.tuple #[r, .int .i64 0]) ∧ New w w' 5 r (u8s (tcC t)) := by
  have HS : Hid (Sts w (blkP w.heap.size (.cells fmt41 276 (0, 0)) :: []) (w.alloc (.cells fmt41 276))) := hid (Sts.alloc stab0 (Sts.nil w) _)
  have HLB : Hid (∀ B ∈ [blkP w.heap.size (.cells fmt41 276 (0, 0))], Stable B) := hid (stabC (blkP_stable _ _) stab0)
  have l1 := ldFm rfl HS.out
  obtain ⟨T, Q, hT, hQ, f1, f2, f3, f4, f5⟩ := tm_facts t ht
  have d1 : decide ((t : Int) < 0) = false := decide_eq_false (by omega)
  have d2 : decide (1099511627776 < (t : Int)) = false := decide_eq_false (by omega)
  have d3 : decide (4294967295 < (T : Int)) = false := decide_eq_false (by omega)
  have HT5 := hid f5
  have HF := hid (And.intro f2 f4)
  have HTC : Hid (Oct.be 4 T ++ [Q] = tcR t) := hid (by rw [hT, hQ]; exact be_tc t)
  clear ht hT hQ f2 f4 f5
  go_enter Tryz.func163, Tryz.ntmps163
  go_wp2_with (first
    | (refine wpList_ldS rfl (.tmp 3) 276 rfl rfl (.agg fmt41) l1 ?_)
    | (go_at_call 234; refine (cR05Valid _).mono ?_; rintro e w1 ⟨rfl, hb1⟩; have H1 := hid (HS.out.quiet HLB.out hb1); have q0 : w1.cell? ⟨w.heap.size, 0, none⟩ = some (.int .i64 4) := (Sts.boxCell H1.out 0 _ rfl).1; have q1 : w1.cell? ⟨w.heap.size, 1, none⟩ = some (.int .i64 1) := (Sts.boxCell H1.out 1 _ rfl).1; clear hb1)
    | (go_at_call 235; refine (cR05most _).mono ?_; rintro e w2 ⟨rfl, hb2⟩; have H2 := hid (H1.out.quiet HLB.out hb2); clear hb2))
  go_loopw [6, 7, 8] (fun v n i wr => ∃ m : Nat, m ≤ 4 ∧ i = .int .i64 (m : Int) ∧ n = .int .i64 ((T / 256 ^ m : Nat) : Int) ∧ Sts w (rowP 5 1 v (Oct.be m T).length (u8s (Oct.be m T)) :: [blkP w.heap.size (.cells fmt41 276 (0, 0))]) wr) (fun _ _ i _ => 4 - (intOf i).toNat)
  case atStart => exact ⟨0, by omega, rfl, by rw [Nat.pow_zero, Nat.div_one, f3], Sts.rowNil 5 H2.out⟩
  case round =>
    obtain ⟨m, hm, rfl, rfl, hs⟩ := hrel
    clear l1 q0 q1 d1 d2 d3 f1 f3
    by_cases hlt : m < 4
    · have dm : decide ((m : Int) < 4) = true := decide_eq_true (by omega)
      obtain ⟨N, hN⟩ : ∃ N, N = T / 256 ^ m := ⟨_, rfl⟩
      have hN2 : N < 4294967296 := by rw [hN]; exact Nat.lt_of_le_of_lt (Nat.div_le_self _ _) HT5.out
      obtain ⟨L, H, hL, hH, g1, g2, g3, g4⟩ := step_facts N hN2
      have HH : Hid (H = T / 256 ^ (m + 1)) := hid (by rw [hH, hN, Nat.div_div_eq_div_mul, Nat.pow_succ])
      have HBE : Hid (L :: Oct.be m T = Oct.be (m + 1) T) := hid (by rw [be_head, hL, hN])
      rw [← hN]
      obtain ⟨ua, uc, rfl⟩ := own_slice hs.rowOwn
      have c0 : wr.cell? ⟨w.heap.size, 0, none⟩ = some (.int .i64 4) := (Sts.boxCell hs.tail 0 _ rfl).1
      have h2 := oneRow (stabC (rowP_stable _ _ _ _ _) HLB.out) hs L
      have H3 := hid h2
      have HR := hid (Sts.rdRow h2.tail (u8s_len _))
      have HNK := hid (NilOk.own h2.tail.rowOwn)
      have HM := hid hm
      clear hN hN2 hL hH hs h2
      go_wp2_with (first
        | (at_builtin; refine wpList_app8 (l := [L]) rfl (.tmp 39) (.tmp 40) rfl H3.out (stabC (rowP_stable _ _ _ _ _) HLB.out) rfl rfl HR.out HNK.out (by rw [Oct.be_len]; have := HM.out; simp; omega) ?_; intro v1 w4 h5
           have h6 := h5.swap.tail
           rw [← List.length_append, List.singleton_append, HBE.out] at h6
           have H6 := hid h6
           clear h5 h6))
      go_roundw
      case rel => exact ⟨m + 1, by omega, by first | rfl | go_num, by rw [← HH.out, g3], H6.out⟩
      case measure => simp [intOf]; omega
    · obtain rfl : m = 4 := by omega
      have c0 : wr.cell? ⟨w.heap.size, 0, none⟩ = some (.int .i64 4) := (Sts.boxCell hs.tail 0 _ rfl).1
      have c1 : wr.cell? ⟨w.heap.size, 1, none⟩ = some (.int .i64 1) := (Sts.boxCell hs.tail 1 _ rfl).1
      have H4 := hid hs
      clear hs hm hlt
      obtain ⟨Z, hZ⟩ : ∃ Z, Z = T / 256 ^ 4 := ⟨_, rfl⟩
      rw [← hZ, show (((4 : Nat) : Int)) = 4 from rfl]
      clear hZ
      go_wp2_with fail
      go_loopw [6, 9] (fun v i wr => (i = .int .i64 0 ∧ Sts w (rowP 5 1 v (Oct.be 4 T).length (u8s (Oct.be 4 T)) :: [blkP w.heap.size (.cells fmt41 276 (0, 0))]) wr) ∨ (i = .int .i64 1 ∧ Sts w (rowP 5 1 v (tcR t).length (u8s (tcR t)) :: [blkP w.heap.size (.cells fmt41 276 (0, 0))]) wr)) (fun _ i _ => 1 - (intOf i).toNat)
      case atStart => exact Or.inl ⟨rfl, H4.out⟩
      case round =>
        clear c0 c1 H4
        rcases hrel with ⟨rfl, hs⟩ | ⟨rfl, hs⟩
        · have c1 : wr.cell? ⟨w.heap.size, 1, none⟩ = some (.int .i64 1) := (Sts.boxCell hs.tail 1 _ rfl).1
          obtain ⟨ua, uc, rfl⟩ := own_slice hs.rowOwn
          obtain ⟨g1, g2⟩ := HF.out
          obtain ⟨h2, hR⟩ := Sts.oneNew HLB.out hs Q
          have H3 := hid h2
          have HR := hid hR
          clear hs h2 hR
          go_wp2_with (first
            | (at_builtin; refine wpList_app8 (l := Oct.be 4 T) rfl (.tmp 54) (.tmp 57) rfl H3.out (stabC (blkP_stable _ _) HLB.out) rfl rfl HR.out (by intro c hc; cases hc) (by rw [Oct.be_len]; show 4 + 1 < 1000000000; decide) ?_; intro v1 w4 h5
               have h6 := h5.swap.tail
               rw [← List.length_append, HTC.out] at h6
               have H6 := hid h6
               clear h5 h6))
          go_roundw
          case rel => exact Or.inr ⟨rfl, H6.out⟩
          case measure => simp [intOf]
        · have c0 : wr.cell? ⟨w.heap.size, 0, none⟩ = some (.int .i64 4) := (Sts.boxCell hs.tail 0 _ rfl).1
          have c1 : wr.cell? ⟨w.heap.size, 1, none⟩ = some (.int .i64 1) := (Sts.boxCell hs.tail 1 _ rfl).1
          obtain ⟨ua, uc, rfl⟩ := own_slice hs.rowOwn
          have h2 := oneRow (stabC (rowP_stable _ _ _ _ _) HLB.out) hs 29
          have H3 := hid h2
          have HR := hid (Sts.rdRow h2.tail (u8s_len _))
          have HNK := hid (NilOk.own h2.tail.rowOwn)
          clear hs h2
          go_wp2_with (first
            | (at_builtin; refine wpList_app8 (l := [29]) rfl (.tmp 68) (.tmp 69) rfl H3.out (stabC (rowP_stable _ _ _ _ _) HLB.out) rfl rfl HR.out HNK.out (by show 1 + 5 < 1000000000; decide) ?_; intro v1 w4 h5
               have h6 := (h5.swap.tail).swap.tail
               rw [← List.length_append, List.singleton_append] at h6
               have H6 := hid h6
               clear h5 h6))
          go_ret2
          exact ⟨_, rfl, New.of_sts H6.out (u8s_len _)⟩
end Go.Proofs.YtnklmadmenkdoaaGreat
namespace Go.Proofs.YtnklmadmenkdoaaGreat
open Go.RowKit Go.Proofs.Num
set_option maxRecDepth 100000 in
set_option maxHeartbeats 4000000 in
theorem cTelemetry (w : World) (a c t : Nat) (d : List Nat) (da : Option Addr) (dc n : Nat) (ha : a < 256) (hc : c ≤ 16383) (ht : t < 1099511627776) (hn : n ≤ 4000) (hdn : d.length = n) (hd : RdB w (.slice da n dc) d) (hv : NilOk (.slice da n dc)) :
    Calls Tryz.prog 68 #[.int .i64 (a : Int), .int .i64 (c : Int), .int .i64 (t : Int), .slice da n dc] w fun e w' => ∃ r, e = .returned r ∧ New w w' 5 r (u8s (Pkt.tel a c (tcC t ++ d))) := by
  have HD := hid hd
  have HV := hid hv
  have KE := hid (fun y => cR05Encode y t ht)
  obtain ⟨N, hN⟩ : ∃ N, N = 6 + n := ⟨_, rfl⟩
  have hNl : (tcC t ++ d).length = N := by rw [List.length_append, hdn, hN]; rfl
  have KP := hid (fun (y : World) (va : Option Addr) (vc : Nat) (hy : RdB y (.slice va N vc) (tcC t ++ d)) (hv : NilOk (.slice va N vc)) => cR10EncodeT y a c (tcC t ++ d) va vc N ha hc (by omega) (by omega) hNl hy hv)
  have HLN : Hid ((tcC t).length + d.length < 1000000000) := hid (by rw [hdn]; show 6 + n < _; omega)
  have HNL := hid hNl
  have H8 := hid (show ∀ x ∈ tcC t ++ d, x < 256 from fun x hx => by
    rcases List.mem_append.1 hx with h | h
    · rcases List.mem_cons.1 h with rfl | h
      · decide
      · exact tcR_lt t x h
    · exact hd.2 x h)
  clear hd hv ht hn hdn hN hNl ha hc
  go_enter Tryz.func68, Tryz.ntmps68
  go_wp2_with fail
  refine (KE.out _).mono ?_
  rintro e w1 ⟨r, rfl, hN⟩
  have h2 := Sts.new stab0 (Sts.nil w) hN
  rw [u8s_len] at h2
  obtain ⟨ra, rc, rfl⟩ := own_slice h2.rowOwn
  have H2 := hid h2
  have HR := hid (HD.out.1.below hN.below)
  clear h2 hN KE
  go_wp2_with (first
    | (at_builtin; refine wpList_app8 (l := tcC t) rfl (.tmp 22) (.tmp 23) rfl H2.out stab0 rfl rfl HR.out HV.out HLN.out ?_; intro v1 w4 h5
       rw [← List.length_append, HNL.out] at h5
       obtain ⟨va, vc, rfl⟩ := own_slice h5.rowOwn
       have H5 := hid h5
       clear h5)
    | (go_at_call 75; refine (KP.out _ va vc ⟨Sts.rdRow H5.out (by rw [u8s_len, HNL.out]), H8.out⟩ (NilOk.own H5.out.rowOwn)).mono ?_; rintro e w6 ⟨r, rfl, h6⟩; have H6 := hid (h6.of H5.out.below); clear h6))
  go_ret
  exact ⟨_, rfl, H6.out⟩
theorem be_ack (s n t co : Nat) (h1 : s ≤ 255) (h2 : n ≤ 65535) : (Oct.be 1 s ++ Oct.be 2 n) ++ [t, co] = ackB s n t co := by
  simp [Oct.be, ackB]
  omega
set_option maxRecDepth 100000 in
set_option maxHeartbeats 4000000 in
theorem cR56Ack (w : World) (s n t co : Nat) (hok : Ver.ok (s : Int) (n : Int) (t : Int) (co : Int) = true) :
    Calls Tryz.prog 35 #[.agg (ackV (s : Int) (n : Int) (t : Int) (co : Int))] w fun e w' => ∃ r, e = .returned r ∧ New w w' 5 r (u8s (ackB s n t co)) := by
  obtain ⟨⟨_, g1⟩, ⟨_, g2⟩, ⟨_, g3⟩, ⟨_, g4⟩⟩ := (Ver.ok_iff _ _ _ _).1 hok
  have HS : Hid (Sts w (blkP w.heap.size (.cells (ackV (s : Int) (n : Int) (t : Int) (co : Int)) 61 (0, 0)) :: []) (w.alloc (.cells (ackV (s : Int) (n : Int) (t : Int) (co : Int)) 61))) := hid (Sts.alloc stab0 (Sts.nil w) _)
  have HLB : Hid (∀ B ∈ [blkP w.heap.size (.cells (ackV (s : Int) (n : Int) (t : Int) (co : Int)) 61 (0, 0))], Stable B) := hid (stabC (blkP_stable _ _) stab0)
  have w1 : IntKind.u64.wrap (s : Int) = (s : Int) := by rw [IntKind.wrap_u64]; omega
  have w2 : IntKind.u64.wrap (n : Int) = (n : Int) := by rw [IntKind.wrap_u64]; omega
  have w3 : (t : Int) % 256 = (t : Int) := Int.emod_eq_of_lt (by omega) (by omega)
  have w4 : (co : Int) % 256 = (co : Int) := Int.emod_eq_of_lt (by omega) (by omega)
  have S32 := hid (show s < 4294967296 ∧ n < 4294967296 by omega)
  have HB := hid (be_ack s n t co (by omega) (by omega))
  clear hok g1 g2 g3 g4
  go_enter Tryz.func35, Tryz.ntmps35
  go_wp2_with fail
  refine wp_region_ordQ (.pure 0 (.pure 1 (.pure 2 (.pure 4 (.pure 5 (.pure 6 (.eff 3 (.eff 7 (.eff 8 (.pure 9 .nil)))))))))) (fun y => y.cell? ⟨w.heap.size, 0, none⟩ = some (.int .i64 (s : Int)) ∧ y.cell? ⟨w.heap.size, 1, none⟩ = some (.int .i64 (n : Int))) (fun y => Sts w (blkP w.heap.size (.cells (ackV (s : Int) (n : Int) (t : Int) (co : Int)) 61 (0, 0)) :: []) y) (by kernel_rfl) (by kernel_rfl) (HS.out.drew (HLB.out)) (fun y hy => ⟨(Sts.boxCell hy 0 _ rfl).1, (Sts.boxCell hy 1 _ rfl).1⟩) ?_
  iterate 6
    (apply ordq_pure (ho := rfl)
     · go_simp
     · intro x hx; obtain ⟨x1, x2⟩ := hx; go_simp; rfl
     apply ordq_norm
     · go_simp; rfl)
  apply ordq_eff (ho := rfl)
  · go_simp
  intro y hy
  refine eff_call (f := 96) (by go_simp) (cRUint1 y s S32.out.1) ?_
  rintro e w3 ⟨r, rfl, hN⟩
  have h4 := Sts.new HLB.out hy hN
  rw [u8s_len, Oct.be_len] at h4
  obtain ⟨ra, rc, rfl⟩ := own_slice h4.rowOwn
  refine ⟨_, rfl, (fun y => y.cell? ⟨w.heap.size, 0, none⟩ = some (.int .i64 (s : Int)) ∧ y.cell? ⟨w.heap.size, 1, none⟩ = some (.int .i64 (n : Int))), (fun y => Sts w (rowP 5 1 (.slice ra 1 rc) 1 (u8s (Oct.be 1 s)) :: blkP w.heap.size (.cells (ackV (s : Int) (n : Int) (t : Int) (co : Int)) 61 (0, 0)) :: []) y), h4, (fun y hy => ⟨(Sts.boxCell hy.tail 0 _ rfl).1, (Sts.boxCell hy.tail 1 _ rfl).1⟩), (fun _ h => h), ?_⟩
  clear h4 hy y hN
  apply ordq_norm
  · go_simp; rfl
  apply ordq_eff (ho := rfl)
  · go_simp
  intro y hy
  refine eff_call (f := 96) (by go_simp) (cRUint2 y n S32.out.2) ?_
  rintro e w3 ⟨r, rfl, hN⟩
  have h4 := Sts.new (stabC (rowP_stable _ _ _ _ _) (HLB.out)) hy hN
  rw [u8s_len, Oct.be_len] at h4
  obtain ⟨ga, gc, rfl⟩ := own_slice h4.rowOwn
  refine ⟨_, rfl, (fun y => y.cell? ⟨w.heap.size, 0, none⟩ = some (.int .i64 (s : Int)) ∧ y.cell? ⟨w.heap.size, 1, none⟩ = some (.int .i64 (n : Int))), (fun y => Sts w (rowP 5 1 (.slice ga 2 gc) 2 (u8s (Oct.be 2 n)) :: rowP 5 1 (.slice ra 1 rc) 1 (u8s (Oct.be 1 s)) :: blkP w.heap.size (.cells (ackV (s : Int) (n : Int) (t : Int) (co : Int)) 61 (0, 0)) :: []) y), h4, (fun y hy => ⟨(Sts.boxCell hy.tail.tail 0 _ rfl).1, (Sts.boxCell hy.tail.tail 1 _ rfl).1⟩), (fun _ h => h), ?_⟩
  clear h4 hy y hN
  apply ordq_norm
  · go_simp; rfl
  apply ordq_eff (ho := rfl)
  · go_simp
  intro y hy
  refine eff_app8 (l := Oct.be 1 s) (m := Oct.be 2 n) (stabC (rowP_stable _ _ _ _ _) (HLB.out)) hy.swap (.tmp 7) (.tmp 11) rfl ?_ ?_ (Sts.rdRow hy (by rw [u8s_len, Oct.be_len])) (NilOk.own hy.rowOwn) (by rw [Oct.be_len, Oct.be_len]; decide) (fun y v' hy => ⟨(Sts.boxCell hy.tail.tail 0 _ rfl).1, (Sts.boxCell hy.tail.tail 1 _ rfl).1⟩) ?_
  · go_simp
  · go_simp
  intro v1
  apply ordq_norm
  · go_simp; rfl
  clear hy y
  iterate 1
    (apply ordq_pure (ho := rfl)
     · go_simp
     · intro x hx; go_simp; rfl
     apply ordq_norm
     · go_simp; rfl)
  refine ordq_nil fun z hz => ?_
  have HZ := hid hz
  clear hz HS
  have c2 : z.cell? ⟨w.heap.size, 2, none⟩ = some (.int .i64 (t : Int)) := (Sts.boxCell HZ.out.tail.tail 2 _ rfl).1
  have c3 : z.cell? ⟨w.heap.size, 3, none⟩ = some (.int .i64 (co : Int)) := (Sts.boxCell HZ.out.tail.tail 3 _ rfl).1
  have HLC := hid (show ∀ B ∈ rowP 5 1 (.slice ga 2 gc) 2 (u8s (Oct.be 2 n)) :: [blkP w.heap.size (.cells (ackV (s : Int) (n : Int) (t : Int) (co : Int)) 61 (0, 0))], Stable B from stabC (rowP_stable _ _ _ _ _) (HLB.out))
  have hz9 := HZ.out
  rw [← List.length_append] at hz9
  obtain ⟨va, vc, rfl⟩ := own_slice hz9.rowOwn
  have h3 := Sts.alloc (stabC (rowP_stable _ _ _ _ _) HLC.out) hz9 (.cells #[.int .u8 (t : Int), .int .u8 (co : Int)] 5)
  have hR := (Sts.weaken h3 (fun F h => blkP.row h (show 2 ≤ 1000000 by decide)))
  have HR := hid (Sts.rdRow (v := .slice (some ⟨z.heap.size, 0, none⟩) 2 2) (xs := u8s [t, co]) (e := 5) (n := 2) hR rfl)
  have H3 := hid h3.swap
  clear h3 hR
  go_wp2_with (first
    | (at_builtin; refine wpList_app8 (l := Oct.be 1 s ++ Oct.be 2 n) rfl (.tmp 13) (.tmp 20) rfl H3.out (stabC (blkP_stable _ _) HLC.out) rfl rfl HR.out (by intro c hc; cases hc) (by rw [List.length_append, Oct.be_len, Oct.be_len]; show 1 + 2 + 2 < 1000000000; decide) ?_; intro v2 w4 h5
       rw [← List.length_append, HB.out] at h5
       have H5 := hid h5.swap.tail.swap.tail.swap.tail
       clear h5))
  go_ret
  exact ⟨_, rfl, New.of_sts H5.out (u8s_len _)⟩
end Go.Proofs.YtnklmadmenkdoaaGreat
