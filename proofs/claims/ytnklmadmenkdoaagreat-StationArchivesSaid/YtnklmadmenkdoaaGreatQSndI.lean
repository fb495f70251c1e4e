/- The contracts of the frames of the uplink: their checksum, header, encoding. The contract of the encoding of a frame of the uplink. -/
import Derived.Test.YtnklmadmenkdoaaGreatQSndG
set_option linter.unusedVariables false
set_option linter.unusedSimpArgs false
namespace Cmd
/-- Bytes with their checksum behind them. -/
def sum2 (l : List Nat) : List Nat := [Crc.crc16 65535 l / 256, Crc.crc16 65535 l % 256]
def crcB (l : List Nat) : List Nat := l ++ sum2 l
theorem crcB_len (l : List Nat) : (crcB l).length = l.length + 2 := by simp [crcB, sum2]
theorem sum2_lt (l : List Nat) (h : ∀ x ∈ l, x < 256) : ∀ x ∈ sum2 l, x < 256 := by
  have := Crc.crc16_lt 65535 l (by decide) h
  intro x hx
  simp only [sum2, List.mem_cons, List.not_mem_nil, or_false] at hx
  rcases hx with rfl | rfl <;> omega
theorem crcB_lt (l : List Nat) (h : ∀ x ∈ l, x < 256) : ∀ x ∈ crcB l, x < 256 := by
  intro x hx
  rcases List.mem_append.1 hx with h1 | h1
  · exact h x h1
  · exact sum2_lt l h x h1
end Cmd
namespace Go.Proofs.YtnklmadmenkdoaaGreat
open Go.RowKit Go.Proofs.Num
set_option maxRecDepth 100000 in
theorem cAppend16 (w : World) (v : Value) (m : List Nat) (h : RdB w v m) (hv : NilOk v) (hm : m.length < 1000000) :
    Calls Tryz.prog 152 #[v] w fun e w' => ∃ r, e = .returned r ∧ New w w' 5 r (u8s (Cmd.crcB m)) := by
  have KS := hid (cSum16 w v m h (by omega))
  have KC := hid (cClone8 w v m h.1 hv (by omega))
  have hs := Crc.crc16_lt 65535 m (by decide) h.2
  have HE : Hid (∀ A B : Nat, A = Crc.crc16 65535 m / 256 → B = Crc.crc16 65535 m % 256 → m ++ [A, B] = Cmd.crcB m) := hid (by rintro A B rfl rfl; rfl)
  clear h hv
  generalize Crc.crc16 65535 m = s at *
  obtain ⟨A, hA⟩ : ∃ A, A = s / 256 := ⟨_, rfl⟩
  obtain ⟨B, hB⟩ : ∃ B, B = s % 256 := ⟨_, rfl⟩
  have HE2 := hid (HE.out A B hA hB)
  have e1 : (s : Int) / 256 % 256 = (A : Int) := by omega
  have e2 : (s : Int) % 256 = (B : Int) := by omega
  have e3 : (s : Int) / 256 = (A : Int) := by omega
  have e4 : (A : Int) % 256 = (A : Int) := by omega
  clear hA hB HE hs e1
  go_enter Tryz.func152, Tryz.ntmps152
  go_wp2_with (first
    | (go_at_call 201; refine KS.out.mono ?_; rintro e w1 ⟨rfl, rfl⟩)
    | (go_at_call 148; refine KC.out.mono ?_; rintro e w1 ⟨r, rfl, hN, -⟩
       have h1 := Sts.new stab0 (Sts.nil w) hN
       rw [u8s_len] at h1
       have h2 := (Sts.alloc (stabC (rowP_stable _ _ _ _ _) stab0) h1 (.cells #[.int .u8 (A : Int), .int .u8 (B : Int)] 5)).swap
       have HR : Hid (Rd (w1.alloc (.cells #[.int .u8 (A : Int), .int .u8 (B : Int)] 5)) (.slice (some ⟨w1.heap.size, 0, none⟩) 2 2) (u8s [A, B])) := hid (by obtain ⟨F, q⟩ := Sts.head h2.swap; exact blk_rd q.1 rfl rfl (by decide))
       have H2 := hid h2
       clear h1 h2 hN)
    | (at_builtin; refine wpList_app8 rfl (.tmp 7) (.tmp 13) rfl H2.out (stabC (blkP_stable _ _) stab0) rfl rfl HR.out (by intro c hc; cases hc) (by simp; omega) ?_; intro v1 w2 h3; have H3 := hid h3; clear h3))
  go_ret
  refine ⟨_, rfl, ?_⟩
  have h4 := H3.out.swap.tail
  rw [HE2.out] at h4
  exact New.of_sts h4 (by rw [u8s_len, Cmd.crcB_len]; rfl)
set_option maxRecDepth 100000 in
theorem cTcFlag (w : World) (b : Bool) : Calls Tryz.prog 231 #[.bool b] w fun e w' => e = .returned (.int .u64 ((b.toNat : Nat) : Int)) ∧ w = w' := by
  cases b
  all_goals
    go_enter Tryz.func231, Tryz.ntmps231
    go_wp2_with fail
    go_ret
    exact ⟨rfl, rfl⟩
/-- A frame as a value. -/
def tcV (b c : Bool) (craft chan seq : Nat) (v : Value) : Array Value := #[.bool b, .bool c, .int .i64 (craft : Int), .int .i64 (chan : Int), .int .i64 (seq : Int), v]
/-- The value of the header's bits. -/
def tcX (b c : Bool) (craft chan seq n : Nat) : Nat := ((((((((0 * 2 ^ 2 + 0 % 2 ^ 2) * 2 ^ 1 + b.toNat % 2 ^ 1) * 2 ^ 1 + c.toNat % 2 ^ 1) * 2 ^ 2 + 0 % 2 ^ 2) * 2 ^ 10 + craft % 2 ^ 10) * 2 ^ 6 + chan % 2 ^ 6) * 2 ^ 10 + (n + 6) % 2 ^ 10) * 2 ^ 8 + seq % 2 ^ 8)
def tcH (b c : Bool) (craft chan seq n : Nat) : List Nat := Bitw.pk 40 (tcX b c craft chan seq n)
section
variable (b c : Bool) (craft chan seq n : Nat) (a : Option Addr) (cap : Nat) (w : World) (h1 : craft ≤ 1023) (h2 : chan ≤ 7) (h3 : seq ≤ 255) (h4 : 1 ≤ n) (h5 : n ≤ 1017)
include h1 h2 h3 h4 h5
set_option maxRecDepth 100000 in
theorem cTcValid (h6 : b = true ∨ c = false) : Calls Tryz.prog 151 #[.agg (tcV b c craft chan seq (.slice a n cap))] w fun e w' => e = .returned (.bool true) ∧ Below w.heap.size w w' := by
  have HB : Hid (Below w.heap.size w (w.alloc (.cells (tcV b c craft chan seq (.slice a n cap)) 46))) := hid ((Below.refl _ _).alloc (Nat.le_refl _) _)
  have d1 : decide ((craft : Int) < 0) = false := decide_eq_false (by omega)
  have d2 : decide (1023 < (craft : Int)) = false := decide_eq_false (by omega)
  have d3 : decide ((chan : Int) < 0) = false := decide_eq_false (by omega)
  have d4 : decide (7 < (chan : Int)) = false := decide_eq_false (by omega)
  have d5 : decide ((seq : Int) < 0) = false := decide_eq_false (by omega)
  have d6 : decide (255 < (seq : Int)) = false := decide_eq_false (by omega)
  have d7 : decide ((n : Int) < 1) = false := decide_eq_false (by omega)
  have d8 : decide (1017 < (n : Int)) = false := decide_eq_false (by omega)
  clear h1 h2 h3 h4 h5
  unfold tcV at *
  rcases h6 with rfl | rfl
  · go_enter Tryz.func151, Tryz.ntmps151
    go_wp2_with fail
    go_ret
    exact ⟨rfl, HB.out⟩
  · cases b
    all_goals
      go_enter Tryz.func151, Tryz.ntmps151
      go_wp2_with fail
      go_ret
      exact ⟨rfl, HB.out⟩
omit h1 h2 h3 h4 h5 in
theorem bw_new {W w : World} {q : Nat} {l : List HProp} (h : Sts W (blkP q (.cells #[.bool true, .slice none 0 0, .int .i64 0] 345 (0, 0)) :: l) w) : Sts W (bwP q 0 0 :: l) w :=
  Sts.closeBW (v := .slice none 0 0) (show Sts W (blkP q (.cells #[.bool true, .slice none 0 0, .int .i64 ((0 : Nat) : Int)] 345 (0, 0)) :: rowP 5 1 (.slice none 0 0) 0 [] :: l) w from (Sts.rowNil 5 h).swap)
set_option maxRecDepth 100000 in
set_option maxHeartbeats 4000000 in
theorem cTcHeader : Calls Tryz.prog 153 #[.agg (tcV b c craft chan seq (.slice a n cap))] w fun e w' => ∃ r, e = .returned r ∧ New w w' 5 r (u8s (tcH b c craft chan seq n)) := by
  have HS : Hid (Sts w (blkP w.heap.size (.cells (tcV b c craft chan seq (.slice a n cap)) 46 (0, 0)) :: []) (w.alloc (.cells (tcV b c craft chan seq (.slice a n cap)) 46))) := hid (Sts.alloc stab0 (Sts.nil w) _)
  have HLB : Hid (∀ B ∈ [blkP w.heap.size (.cells (tcV b c craft chan seq (.slice a n cap)) 46 (0, 0))], Stable B) := hid (stabC (blkP_stable _ _) stab0)
  have g1 : IntKind.u64.wrap (craft : Int) = (craft : Int) := by rw [IntKind.wrap_u64]; omega
  have g2 : IntKind.u64.wrap (chan : Int) = (chan : Int) := by rw [IntKind.wrap_u64]; omega
  have g3 : IntKind.u64.wrap (seq : Int) = (seq : Int) := by rw [IntKind.wrap_u64]; omega
  have g4 : wrap64 ((n : Int) + 7) = (n : Int) + 7 := by unfold wrap64; omega
  have g5 : (n : Int) + 7 - 1 = (n : Int) + 6 := by omega
  have g6 : wrap64 ((n : Int) + 6) = (n : Int) + 6 := by unfold wrap64; omega
  have g7 : IntKind.u64.wrap ((n : Int) + 6) = ((n + 6 : Nat) : Int) := by rw [IntKind.wrap_u64]; omega
  have g8 : IntKind.i64.wrap ((n : Int) + 7) = (n : Int) + 7 := by rw [IntKind.wrap_i64]; omega
  have g9 : IntKind.i64.wrap ((n : Int) + 6) = (n : Int) + 6 := by rw [IntKind.wrap_i64]; omega
  have hb2 : b.toNat < 2 := by cases b <;> decide
  have hc2 : c.toNat < 2 := by cases c <;> decide
  go_enter Tryz.func153, Tryz.ntmps153
  go_wp2_with fail
  refine wp_region_ordQ (.pure 2 (.pure 3 (.pure 6 (.pure 7 (.eff 0 (.eff 1 (.pure 4 (.eff 5 (.pure 8 (.eff 9 (.eff 10 (.pure 11 .nil)))))))))))) (fun y => y.cell? ⟨w.heap.size, 0, none⟩ = some (.bool b) ∧ y.cell? ⟨w.heap.size, 1, none⟩ = some (.bool c)) (fun y => Sts w [blkP w.heap.size (.cells (tcV b c craft chan seq (.slice a n cap)) 46 (0, 0))] y) (by kernel_rfl) (by kernel_rfl) (HS.out.drew HLB.out) (fun y hy => ⟨(Sts.boxCell hy 0 _ rfl).1, (Sts.boxCell hy 1 _ rfl).1⟩) ?_
  iterate 4
    (apply ordq_pure (ho := rfl)
     · go_simp
     · intro x hx; obtain ⟨k0, k1⟩ := hx; go_simp; rfl
     apply ordq_norm
     · go_simp; rfl)
  apply ordq_eff (ho := rfl)
  · go_simp
  intro y hy
  refine eff_call (f := 165) (by go_simp) (cBitNew HLB.out hy) ?_
  rintro e w3 ⟨q, rfl, h3⟩
  refine ⟨_, rfl, (fun y => y.cell? ⟨w.heap.size, 0, none⟩ = some (.bool b) ∧ y.cell? ⟨w.heap.size, 1, none⟩ = some (.bool c)), (fun y => Sts w (bwP q 0 0 :: [blkP w.heap.size (.cells (tcV b c craft chan seq (.slice a n cap)) 46 (0, 0))]) y), bw_new h3, (fun y hy => ⟨(Sts.boxCell hy.tail 0 _ rfl).1, (Sts.boxCell hy.tail 1 _ rfl).1⟩), (fun _ h => h), ?_⟩
  clear h3 hy y
  apply ordq_norm
  · go_simp; rfl
  apply ordq_eff (ho := rfl)
  · go_simp
  intro y hy
  refine eff_call (f := 166) (by go_simp) (wPut HLB.out hy (0) 2 (by omega) (by decide) (by decide)) ?_
  rintro e w3 ⟨rfl, h3⟩
  obtain ⟨x1, hx1⟩ : ∃ x, x = 0 * 2 ^ 2 + 0 % 2 ^ 2 := ⟨_, rfl⟩
  replace h3 : Sts w (bwP q 2 x1 :: [blkP w.heap.size (.cells (tcV b c craft chan seq (.slice a n cap)) 46 (0, 0))]) w3 := by rw [hx1]; exact h3
  have HX1 := hid hx1
  clear hx1
  refine ⟨_, rfl, (fun y => y.cell? ⟨w.heap.size, 0, none⟩ = some (.bool b) ∧ y.cell? ⟨w.heap.size, 1, none⟩ = some (.bool c)), (fun y => Sts w (bwP q 2 x1 :: [blkP w.heap.size (.cells (tcV b c craft chan seq (.slice a n cap)) 46 (0, 0))]) y), h3, (fun y hy => ⟨(Sts.boxCell hy.tail 0 _ rfl).1, (Sts.boxCell hy.tail 1 _ rfl).1⟩), (fun _ h => h), ?_⟩
  clear h3 hy y
  apply ordq_norm
  · go_simp; rfl
  apply ordq_call (ho := rfl) (f := 231) (args := #[.bool b]) (v := .int .u64 ((b.toNat : Nat) : Int)) (h2 := fun x _ => cTcFlag x b)
  · go_simp
  · intro x hx; go_simp
  apply ordq_norm
  · go_simp; rfl
  apply ordq_eff (ho := rfl)
  · go_simp
  intro y hy
  refine eff_call (f := 166) (by go_simp) (wPut HLB.out hy (b.toNat) 1 (by omega) (by decide) (by decide)) ?_
  rintro e w3 ⟨rfl, h3⟩
  obtain ⟨x2, hx2⟩ : ∃ x, x = x1 * 2 ^ 1 + b.toNat % 2 ^ 1 := ⟨_, rfl⟩
  replace h3 : Sts w (bwP q 3 x2 :: [blkP w.heap.size (.cells (tcV b c craft chan seq (.slice a n cap)) 46 (0, 0))]) w3 := by rw [hx2]; exact h3
  have HX2 := hid hx2
  clear hx2
  refine ⟨_, rfl, (fun y => y.cell? ⟨w.heap.size, 0, none⟩ = some (.bool b) ∧ y.cell? ⟨w.heap.size, 1, none⟩ = some (.bool c)), (fun y => Sts w (bwP q 3 x2 :: [blkP w.heap.size (.cells (tcV b c craft chan seq (.slice a n cap)) 46 (0, 0))]) y), h3, (fun y hy => ⟨(Sts.boxCell hy.tail 0 _ rfl).1, (Sts.boxCell hy.tail 1 _ rfl).1⟩), (fun _ h => h), ?_⟩
  clear h3 hy y
  apply ordq_norm
  · go_simp; rfl
  apply ordq_call (ho := rfl) (f := 231) (args := #[.bool c]) (v := .int .u64 ((c.toNat : Nat) : Int)) (h2 := fun x _ => cTcFlag x c)
  · go_simp
  · intro x hx; go_simp
  apply ordq_norm
  · go_simp; rfl
  apply ordq_eff (ho := rfl)
  · go_simp
  intro y hy
  refine eff_call (f := 166) (by go_simp) (wPut HLB.out hy (c.toNat) 1 (by omega) (by decide) (by decide)) ?_
  rintro e w3 ⟨rfl, h3⟩
  obtain ⟨x3, hx3⟩ : ∃ x, x = x2 * 2 ^ 1 + c.toNat % 2 ^ 1 := ⟨_, rfl⟩
  replace h3 : Sts w (bwP q 4 x3 :: [blkP w.heap.size (.cells (tcV b c craft chan seq (.slice a n cap)) 46 (0, 0))]) w3 := by rw [hx3]; exact h3
  have HX3 := hid hx3
  clear hx3
  refine ⟨_, rfl, (fun y => y.cell? ⟨w.heap.size, 0, none⟩ = some (.bool b) ∧ y.cell? ⟨w.heap.size, 1, none⟩ = some (.bool c)), (fun y => Sts w (bwP q 4 x3 :: [blkP w.heap.size (.cells (tcV b c craft chan seq (.slice a n cap)) 46 (0, 0))]) y), h3, (fun y hy => ⟨(Sts.boxCell hy.tail 0 _ rfl).1, (Sts.boxCell hy.tail 1 _ rfl).1⟩), (fun _ h => h), ?_⟩
  clear h3 hy y
  apply ordq_norm
  · go_simp; rfl
  apply ordq_eff (ho := rfl)
  · go_simp
  intro y hy
  refine eff_call (f := 166) (by go_simp) (wPut HLB.out hy (0) 2 (by omega) (by decide) (by decide)) ?_
  rintro e w3 ⟨rfl, h3⟩
  obtain ⟨x4, hx4⟩ : ∃ x, x = x3 * 2 ^ 2 + 0 % 2 ^ 2 := ⟨_, rfl⟩
  replace h3 : Sts w (bwP q 6 x4 :: [blkP w.heap.size (.cells (tcV b c craft chan seq (.slice a n cap)) 46 (0, 0))]) w3 := by rw [hx4]; exact h3
  have HX4 := hid hx4
  clear hx4
  refine ⟨_, rfl, (fun y => y.cell? ⟨w.heap.size, 0, none⟩ = some (.bool b) ∧ y.cell? ⟨w.heap.size, 1, none⟩ = some (.bool c)), (fun y => Sts w (bwP q 6 x4 :: [blkP w.heap.size (.cells (tcV b c craft chan seq (.slice a n cap)) 46 (0, 0))]) y), h3, (fun y hy => ⟨(Sts.boxCell hy.tail 0 _ rfl).1, (Sts.boxCell hy.tail 1 _ rfl).1⟩), (fun _ h => h), ?_⟩
  clear h3 hy y
  apply ordq_norm
  · go_simp; rfl
  iterate 1
    (apply ordq_pure (ho := rfl)
     · go_simp
     · intro x hx; go_simp; rfl
     apply ordq_norm
     · go_simp; rfl)
  refine ordq_nil fun z hz => ?_
  have HZ := hid hz
  clear hz HS
  go_wp2_with fail
  refine wp_region_ordQ (.pure 0 (.pure 1 (.pure 2 (.pure 3 (.pure 5 (.pure 6 (.pure 7 (.pure 9 (.pure 10 (.pure 11 (.pure 12 (.pure 13 (.pure 14 (.pure 16 (.pure 17 (.pure 18 (.eff 4 (.eff 8 (.eff 15 (.eff 19 .nil)))))))))))))))))))) (fun y => y.cell? ⟨w.heap.size, 2, none⟩ = some (.int .i64 (craft : Int)) ∧ y.cell? ⟨w.heap.size, 3, none⟩ = some (.int .i64 (chan : Int)) ∧ y.cell? ⟨w.heap.size, 4, none⟩ = some (.int .i64 (seq : Int)) ∧ y.cell? ⟨w.heap.size, 5, none⟩ = some (.slice a n cap)) (fun y => Sts w (bwP q 6 x4 :: [blkP w.heap.size (.cells (tcV b c craft chan seq (.slice a n cap)) 46 (0, 0))]) y) (by kernel_rfl) (by kernel_rfl) (HZ.out.drew (stabC (bwP_stable _ _ _) HLB.out)) (fun y hy => ⟨(Sts.boxCell hy.tail 2 _ rfl).1, (Sts.boxCell hy.tail 3 _ rfl).1, (Sts.boxCell hy.tail 4 _ rfl).1, (Sts.boxCell hy.tail 5 _ rfl).1⟩) ?_
  iterate 16
    (apply ordq_pure (ho := rfl)
     · go_simp
     · intro x hx; obtain ⟨k0, k1, k2, k3⟩ := hx; go_simp; rfl
     apply ordq_norm
     · go_simp; rfl)
  apply ordq_eff (ho := rfl)
  · go_simp
  intro y hy
  refine eff_call (f := 166) (by go_simp) (wPut HLB.out hy (craft) 10 (by omega) (by decide) (by decide)) ?_
  rintro e w3 ⟨rfl, h3⟩
  obtain ⟨x5, hx5⟩ : ∃ x, x = x4 * 2 ^ 10 + craft % 2 ^ 10 := ⟨_, rfl⟩
  replace h3 : Sts w (bwP q 16 x5 :: [blkP w.heap.size (.cells (tcV b c craft chan seq (.slice a n cap)) 46 (0, 0))]) w3 := by rw [hx5]; exact h3
  have HX5 := hid hx5
  clear hx5
  refine ⟨_, rfl, (fun y => y.cell? ⟨w.heap.size, 2, none⟩ = some (.int .i64 (craft : Int)) ∧ y.cell? ⟨w.heap.size, 3, none⟩ = some (.int .i64 (chan : Int)) ∧ y.cell? ⟨w.heap.size, 4, none⟩ = some (.int .i64 (seq : Int)) ∧ y.cell? ⟨w.heap.size, 5, none⟩ = some (.slice a n cap)), (fun y => Sts w (bwP q 16 x5 :: [blkP w.heap.size (.cells (tcV b c craft chan seq (.slice a n cap)) 46 (0, 0))]) y), h3, (fun y hy => ⟨(Sts.boxCell hy.tail 2 _ rfl).1, (Sts.boxCell hy.tail 3 _ rfl).1, (Sts.boxCell hy.tail 4 _ rfl).1, (Sts.boxCell hy.tail 5 _ rfl).1⟩), (fun _ h => h), ?_⟩
  clear h3 hy y
  apply ordq_norm
  · go_simp; rfl
  apply ordq_eff (ho := rfl)
  · go_simp
  intro y hy
  refine eff_call (f := 166) (by go_simp) (wPut HLB.out hy (chan) 6 (by omega) (by decide) (by decide)) ?_
  rintro e w3 ⟨rfl, h3⟩
  obtain ⟨x6, hx6⟩ : ∃ x, x = x5 * 2 ^ 6 + chan % 2 ^ 6 := ⟨_, rfl⟩
  replace h3 : Sts w (bwP q 22 x6 :: [blkP w.heap.size (.cells (tcV b c craft chan seq (.slice a n cap)) 46 (0, 0))]) w3 := by rw [hx6]; exact h3
  have HX6 := hid hx6
  clear hx6
  refine ⟨_, rfl, (fun y => y.cell? ⟨w.heap.size, 2, none⟩ = some (.int .i64 (craft : Int)) ∧ y.cell? ⟨w.heap.size, 3, none⟩ = some (.int .i64 (chan : Int)) ∧ y.cell? ⟨w.heap.size, 4, none⟩ = some (.int .i64 (seq : Int)) ∧ y.cell? ⟨w.heap.size, 5, none⟩ = some (.slice a n cap)), (fun y => Sts w (bwP q 22 x6 :: [blkP w.heap.size (.cells (tcV b c craft chan seq (.slice a n cap)) 46 (0, 0))]) y), h3, (fun y hy => ⟨(Sts.boxCell hy.tail 2 _ rfl).1, (Sts.boxCell hy.tail 3 _ rfl).1, (Sts.boxCell hy.tail 4 _ rfl).1, (Sts.boxCell hy.tail 5 _ rfl).1⟩), (fun _ h => h), ?_⟩
  clear h3 hy y
  apply ordq_norm
  · go_simp; rfl
  apply ordq_eff (ho := rfl)
  · go_simp
  intro y hy
  refine eff_call (f := 166) (by go_simp) (wPut HLB.out hy (n + 6) 10 (by omega) (by decide) (by decide)) ?_
  rintro e w3 ⟨rfl, h3⟩
  obtain ⟨x7, hx7⟩ : ∃ x, x = x6 * 2 ^ 10 + (n + 6) % 2 ^ 10 := ⟨_, rfl⟩
  replace h3 : Sts w (bwP q 32 x7 :: [blkP w.heap.size (.cells (tcV b c craft chan seq (.slice a n cap)) 46 (0, 0))]) w3 := by rw [hx7]; exact h3
  have HX7 := hid hx7
  clear hx7
  refine ⟨_, rfl, (fun y => y.cell? ⟨w.heap.size, 2, none⟩ = some (.int .i64 (craft : Int)) ∧ y.cell? ⟨w.heap.size, 3, none⟩ = some (.int .i64 (chan : Int)) ∧ y.cell? ⟨w.heap.size, 4, none⟩ = some (.int .i64 (seq : Int)) ∧ y.cell? ⟨w.heap.size, 5, none⟩ = some (.slice a n cap)), (fun y => Sts w (bwP q 32 x7 :: [blkP w.heap.size (.cells (tcV b c craft chan seq (.slice a n cap)) 46 (0, 0))]) y), h3, (fun y hy => ⟨(Sts.boxCell hy.tail 2 _ rfl).1, (Sts.boxCell hy.tail 3 _ rfl).1, (Sts.boxCell hy.tail 4 _ rfl).1, (Sts.boxCell hy.tail 5 _ rfl).1⟩), (fun _ h => h), ?_⟩
  clear h3 hy y
  apply ordq_norm
  · go_simp; rfl
  apply ordq_eff (ho := rfl)
  · go_simp
  intro y hy
  refine eff_call (f := 166) (by go_simp) (wPut HLB.out hy (seq) 8 (by omega) (by decide) (by decide)) ?_
  rintro e w3 ⟨rfl, h3⟩
  obtain ⟨x8, hx8⟩ : ∃ x, x = x7 * 2 ^ 8 + seq % 2 ^ 8 := ⟨_, rfl⟩
  replace h3 : Sts w (bwP q 40 x8 :: [blkP w.heap.size (.cells (tcV b c craft chan seq (.slice a n cap)) 46 (0, 0))]) w3 := by rw [hx8]; exact h3
  have HX8 := hid hx8
  clear hx8
  refine ⟨_, rfl, (fun y => y.cell? ⟨w.heap.size, 2, none⟩ = some (.int .i64 (craft : Int)) ∧ y.cell? ⟨w.heap.size, 3, none⟩ = some (.int .i64 (chan : Int)) ∧ y.cell? ⟨w.heap.size, 4, none⟩ = some (.int .i64 (seq : Int)) ∧ y.cell? ⟨w.heap.size, 5, none⟩ = some (.slice a n cap)), (fun y => Sts w (bwP q 40 x8 :: [blkP w.heap.size (.cells (tcV b c craft chan seq (.slice a n cap)) 46 (0, 0))]) y), h3, (fun y hy => ⟨(Sts.boxCell hy.tail 2 _ rfl).1, (Sts.boxCell hy.tail 3 _ rfl).1, (Sts.boxCell hy.tail 4 _ rfl).1, (Sts.boxCell hy.tail 5 _ rfl).1⟩), (fun _ h => h), ?_⟩
  clear h3 hy y
  apply ordq_norm
  · go_simp; rfl
  refine ordq_nil fun z hz => ?_
  have HZ2 := hid hz
  clear hz HZ
  go_wp2_with fail
  refine (wBitBytes HLB.out HZ2.out (by decide)).mono ?_
  rintro e w5 ⟨r, rfl, h5⟩
  have h6 := (h5.swap.tail.swap.tail)
  have HN := hid (New.of_sts h6 (u8s_len _))
  clear h5 h6
  go_wp2_with fail
  go_ret
  refine ⟨r, rfl, ?_⟩
  have hE : x8 = tcX b c craft chan seq n := by rw [HX8.out, HX7.out, HX6.out, HX5.out, HX4.out, HX3.out, HX2.out, HX1.out]; rfl
  unfold tcH
  rw [← hE]
  exact HN.out
end
end Go.Proofs.YtnklmadmenkdoaaGreat
namespace Go.Proofs.YtnklmadmenkdoaaGreat
open Go.RowKit Go.Proofs.Num
set_option maxRecDepth 100000 in
theorem infoTc : (Tryz.prog.info? 46).map (·.size) = some 6 := by kernel_rfl
theorem ldTc {W w : World} {l : List HProp} {b : Nat} {cs : Array Value} (hs : cs.size = 6) (h : Sts W (blkP b (.cells cs 46 (0, 0)) :: l) w) : (loadVar 46 ⟨b, 0, none⟩).run Tryz.prog w = .ok (.agg cs) w := by
  have hb : w.heap[b]? = some (.cells cs 46 (0, 0)) := by obtain ⟨F, hF⟩ := h.head; exact hF.1
  exact run_loadVar_row (P := Tryz.prog) w b 46 46 cs (0, 0) _ hb Tryz.underlying46 rfl (by rw [infoTc, hs])
theorem tcH_len (b c : Bool) (craft chan seq n : Nat) : (tcH b c craft chan seq n).length = 5 := by unfold tcH; rw [Bitw.pk_len]; rfl
theorem tcH_lt (b c : Bool) (craft chan seq n : Nat) : ∀ x ∈ tcH b c craft chan seq n, x < 256 := Bitw.pk_lt _ _
theorem Sts.rdB8 {W w : World} {e : TypeId} {v : Value} {l : List Nat} {L : List HProp} (h : Sts W (rowP e 1 v l.length (u8s l) :: L) w) (hl : ∀ x ∈ l, x < 256) : RdB w v l := ⟨Sts.rdRow h (u8s_len l), hl⟩
/-- A frame of the uplink. -/
def tcB (b c : Bool) (craft chan seq : Nat) (d : List Nat) : List Nat := Cmd.crcB (tcH b c craft chan seq d.length ++ d)
set_option maxRecDepth 100000 in
set_option maxHeartbeats 4000000 in
theorem cTcEncode (b c : Bool) (craft chan seq : Nat) (a : Option Addr) (cap : Nat) (d : List Nat) (w : World) (h1 : craft ≤ 1023) (h2 : chan ≤ 7) (h3 : seq ≤ 255) (h4 : 1 ≤ d.length) (h5 : d.length ≤ 1017) (h6 : b = true ∨ c = false) (hd : RdB w (.slice a d.length cap) d) (hv : NilOk (.slice a d.length cap)) :
    Calls Tryz.prog 57 #[.agg (tcV b c craft chan seq (.slice a d.length cap))] w fun e w' => ∃ r, e = .returned (.tuple #[r, .int .i64 0]) ∧ New w w' 5 r (u8s (tcB b c craft chan seq d)) := by
  have HS : Hid (Sts w (blkP w.heap.size (.cells (tcV b c craft chan seq (.slice a d.length cap)) 46 (0, 0)) :: []) (w.alloc (.cells (tcV b c craft chan seq (.slice a d.length cap)) 46))) := hid (Sts.alloc stab0 (Sts.nil w) _)
  have HLB : Hid (∀ B ∈ [blkP w.heap.size (.cells (tcV b c craft chan seq (.slice a d.length cap)) 46 (0, 0))], Stable B) := hid (stabC (blkP_stable _ _) stab0)
  have KV := hid (fun w => cTcValid b c craft chan seq d.length a cap w h1 h2 h3 h4 h5 h6)
  have KH := hid (fun w => cTcHeader b c craft chan seq d.length a cap w h1 h2 h3 h4 h5)
  have HD := hid hd
  have HV := hid hv
  have H5 := hid h5
  have HLD := hid (fun (y : World) (h : Sts w (blkP w.heap.size (.cells (tcV b c craft chan seq (.slice a d.length cap)) 46 (0, 0)) :: []) y) => ldTc (cs := tcV b c craft chan seq (.slice a d.length cap)) rfl h)
  clear hd hv h1 h2 h3 h4 h5 h6
  go_enter Tryz.func57, Tryz.ntmps57
  go_wp2_with (first
    | (refine wpList_ldS rfl (.tmp 1) 46 rfl rfl (.agg (tcV b c craft chan seq (.slice a d.length cap))) (HLD.out _ HS.out) ?_)
    | (go_at_call 151; refine (KV.out _).mono ?_; rintro e w1 ⟨rfl, hb1⟩; have H1 := hid (HS.out.quiet HLB.out hb1); clear hb1))
  refine wp_region_ordQ (.pure 0 (.pure 2 (.pure 3 (.eff 1 (.eff 4 (.eff 5 (.pure 6 (.pure 7 .nil)))))))) (fun y => (loadVar 46 ⟨w.heap.size, 0, none⟩).run Tryz.prog y = .ok (.agg (tcV b c craft chan seq (.slice a d.length cap))) y ∧ y.cell? ⟨w.heap.size, 5, none⟩ = some (.slice a d.length cap)) (fun y => Sts w [blkP w.heap.size (.cells (tcV b c craft chan seq (.slice a d.length cap)) 46 (0, 0))] y) (by kernel_rfl) (by kernel_rfl) (H1.out.drew HLB.out) (fun y hy => ⟨HLD.out y hy, (Sts.boxCell hy 5 _ rfl).1⟩) ?_
  apply ordq_pure (ho := rfl)
  · go_simp
  · exact fun x hx => exec_ldS (.tmp 1) 46 rfl rfl hx.1
  apply ordq_norm
  · go_simp; rfl
  iterate 2
    (apply ordq_pure (ho := rfl)
     · go_simp
     · intro x hx; obtain ⟨k0, k1⟩ := hx; go_simp; rfl
     apply ordq_norm
     · go_simp; rfl)
  apply ordq_eff (ho := rfl)
  · go_simp
  intro y hy
  refine eff_call (f := 153) (by go_simp) (KH.out y) ?_
  rintro e w3 ⟨r, rfl, h3⟩
  have h4 := Sts.new HLB.out hy h3
  rw [u8s_len] at h4
  refine ⟨_, rfl, (fun y => (loadVar 46 ⟨w.heap.size, 0, none⟩).run Tryz.prog y = .ok (.agg (tcV b c craft chan seq (.slice a d.length cap))) y ∧ y.cell? ⟨w.heap.size, 5, none⟩ = some (.slice a d.length cap)), (fun y => Sts w (rowP 5 1 r (tcH b c craft chan seq d.length).length (u8s (tcH b c craft chan seq d.length)) :: [blkP w.heap.size (.cells (tcV b c craft chan seq (.slice a d.length cap)) 46 (0, 0))]) y), h4, (fun y hy => ⟨HLD.out y hy.tail, (Sts.boxCell hy.tail 5 _ rfl).1⟩), (fun _ h => h), ?_⟩
  clear h3 h4 hy y
  apply ordq_norm
  · go_simp; rfl
  apply ordq_eff (ho := rfl)
  · go_simp
  intro y hy
  refine eff_app8 HLB.out hy (.tmp 8) (.tmp 10) rfl ?_ ?_ (HD.out.1.below hy.below) HV.out (by rw [tcH_len]; have := H5.out; omega) (fun y v' hy => ⟨HLD.out y hy.tail, (Sts.boxCell hy.tail 5 _ rfl).1⟩) ?_
  · go_simp
  · go_simp
  intro v1
  apply ordq_norm
  · go_simp; rfl
  clear hy y
  apply ordq_eff (ho := rfl)
  · go_simp
  intro y hy
  have hn1 : (tcH b c craft chan seq d.length ++ d).length = (tcH b c craft chan seq d.length).length + d.length := List.length_append
  have hy1 : Sts w (rowP 5 1 v1 (tcH b c craft chan seq d.length ++ d).length (u8s (tcH b c craft chan seq d.length ++ d)) :: [blkP w.heap.size (.cells (tcV b c craft chan seq (.slice a d.length cap)) 46 (0, 0))]) y := by rw [hn1]; exact hy
  refine eff_call (f := 152) (by go_simp) (cAppend16 y v1 (tcH b c craft chan seq d.length ++ d) (Sts.rdB8 hy1 (fun x hx => by
    rcases List.mem_append.1 hx with h | h
    · exact tcH_lt _ _ _ _ _ _ x h
    · exact HD.out.2 x h)) (NilOk.own hy1.rowOwn) (by rw [hn1, tcH_len]; have := H5.out; omega)) ?_
  rintro e w4 ⟨r2, rfl, h5⟩
  have h6 := Sts.new HLB.out hy1.tail h5
  rw [u8s_len] at h6
  refine ⟨_, rfl, (fun y => (loadVar 46 ⟨w.heap.size, 0, none⟩).run Tryz.prog y = .ok (.agg (tcV b c craft chan seq (.slice a d.length cap))) y ∧ y.cell? ⟨w.heap.size, 5, none⟩ = some (.slice a d.length cap)), (fun y => Sts w (rowP 5 1 r2 (tcB b c craft chan seq d).length (u8s (tcB b c craft chan seq d)) :: [blkP w.heap.size (.cells (tcV b c craft chan seq (.slice a d.length cap)) 46 (0, 0))]) y), h6, (fun y hy => ⟨HLD.out y hy.tail, (Sts.boxCell hy.tail 5 _ rfl).1⟩), (fun _ h => h), ?_⟩
  clear h5 h6 hy hy1 hn1 y
  apply ordq_norm
  · go_simp; rfl
  iterate 2
    (apply ordq_pure (ho := rfl)
     · go_simp
     · intro x hx; go_simp; rfl
     apply ordq_norm
     · go_simp; rfl)
  refine ordq_nil fun z hz => ?_
  have HN := hid (New.of_sts hz.swap.tail (u8s_len _))
  clear hz
  go_wp2_with fail
  go_ret2
  exact ⟨r2, rfl, HN.out⟩
end Go.Proofs.YtnklmadmenkdoaaGreat
