/- The contracts of the writer of bytes: integers in a variable number of bytes, byte strings. The contracts of the writer of bytes (byte strings) and of the writer of bits. The contract of Put: bits behind bits. The checksums CRC-16 and CRC-32C: byte by byte as the program computes them, and bit by bit as the specification does. No program in sight. -/
import Derived.Test.YtnklmadmenkdoaaGreatQSndA
import Derived.IntWalk
import Derived.Laws.BitsAllLaws
set_option linter.unusedVariables false
set_option linter.unusedSimpArgs false
namespace Go.Proofs.YtnklmadmenkdoaaGreat
open Go.RowKit Go.Proofs.Num
theorem compl64 (c : Nat) (hc : c < 18446744073709551616) : c ^^^ 18446744073709551615 = 18446744073709551615 - c := by
  apply Nat.eq_of_testBit_eq
  intro i
  have h1 := Nat.testBit_two_pow_sub_succ (n := 64) (x := c) hc i
  have h2 := Nat.testBit_two_pow_sub_one 64 i
  rw [show (2 : Nat) ^ 64 - 1 = 18446744073709551615 by decide] at h2
  rw [show (2 : Nat) ^ 64 - (c + 1) = 18446744073709551615 - c by omega] at h1
  rw [Nat.testBit_xor, h1, h2]
  by_cases h : i < 64
  · simp [h]
  · have : c.testBit i = false := Nat.testBit_lt_two_pow (Nat.lt_of_lt_of_le hc (Nat.pow_le_pow_right (show 2 > 0 by decide) (show 64 ≤ i by omega)))
    simp [h, this]
theorem zig_val (n : Int) (h1 : -1099511627776 ≤ n) (h2 : n ≤ 1099511627776) : bits .xor .u64 (IntKind.u64.wrap (IntKind.u64.wrap n * 2)) (IntKind.u64.wrap (n / 9223372036854775808)) = ((Cmd.zig n : Nat) : Int) := by
  by_cases h : n < 0
  · obtain ⟨m, rfl⟩ : ∃ m : Nat, n = -((m : Int) + 1) := ⟨(-n - 1).toNat, by omega⟩
    have e1 : IntKind.u64.wrap (IntKind.u64.wrap (-((m : Int) + 1)) * 2) = ((18446744073709551614 - 2 * m : Nat) : Int) := by
      rw [IntKind.wrap_u64, IntKind.wrap_u64]; omega
    have e2 : IntKind.u64.wrap (-((m : Int) + 1) / 9223372036854775808) = ((18446744073709551615 : Nat) : Int) := by
      rw [IntKind.wrap_u64]; omega
    rw [e1, e2, u64_xor_nat _ _ (by omega) (by omega), compl64 _ (by omega)]
    unfold Cmd.zig
    rw [if_pos h]
    omega
  · obtain ⟨m, rfl⟩ : ∃ m : Nat, n = (m : Int) := ⟨n.toNat, by omega⟩
    have e1 : IntKind.u64.wrap (IntKind.u64.wrap (m : Int) * 2) = ((2 * m : Nat) : Int) := by
      rw [IntKind.wrap_u64, IntKind.wrap_u64]; omega
    have e2 : IntKind.u64.wrap ((m : Int) / 9223372036854775808) = ((0 : Nat) : Int) := by
      rw [IntKind.wrap_u64]; omega
    rw [e1, e2, u64_xor_nat _ _ (by omega) (by omega), Nat.xor_zero]
    unfold Cmd.zig
    rw [if_neg h]
    omega
set_option maxRecDepth 100000 in
theorem cZig (w : World) (n : Int) (h1 : -1099511627776 ≤ n) (h2 : n ≤ 1099511627776) : Calls Tryz.prog 196 #[.int .i64 n] w fun e w' => e = .returned (.int .u64 ((Cmd.zig n : Nat) : Int)) ∧ w = w' := by
  have HZ := hid (zig_val n h1 h2)
  clear h1 h2
  go_enter Tryz.func196, Tryz.ntmps196
  go_wp2_with fail
  go_ret
  exact ⟨ret_int HZ.out, rfl⟩
section
variable {W w : World} {p : Nat} {bs : List Nat} {l : List HProp}
theorem or128t : ∀ a, a < 256 → a ||| 128 = a % 128 + 128 := by decide +kernel
omit W w p bs l in
theorem or128 (x : Nat) : bits .or .u8 (IntKind.u8.wrap (x : Int)) 128 = ((x % 128 + 128 : Nat) : Int) := by
  have e : IntKind.u8.wrap (x : Int) = ((x % 256 : Nat) : Int) := by rw [IntKind.wrap_u8]; simp
  rw [e, show (128 : Int) = ((128 : Nat) : Int) from rfl, u8_or_nat _ _ (Nat.mod_lt _ (by decide)) (by decide), or128t _ (Nat.mod_lt _ (by decide))]
  rw [show x % 256 % 128 = x % 128 by omega]
omit W w p bs l in
set_option maxRecDepth 100000 in
theorem szSl8 : ∀ w, (Go.sizeOf 35).run Tryz.prog w = .ok 1 w := fun w => by first | rfl | simp [go_sem] | kernel_rfl
theorem stabTl {A : HProp} {l : List HProp} (h : ∀ B ∈ A :: l, Stable B) : ∀ B ∈ l, Stable B := fun B hB => h B (List.mem_cons_of_mem _ hB)
theorem own_slice {w : World} {b : Nat} {e : TypeId} {s n : Nat} {v : Value} {xs : List Value} (h : w.ownsRow b e s v n xs) : ∃ a c, v = .slice a n c := by
  rcases h.2 with ⟨h1, h2⟩ | ⟨g, cap, cur, hv, _⟩
  · exact ⟨none, 0, by rw [h1, h2]⟩
  · exact ⟨_, cap, hv⟩
/-- One byte is appended to what the writer holds: what is there ahead of the append, and behind it. -/
theorem Sts.oneMore {W w : World} {p : Nat} {v : Value} {ys : List Nat} {l : List HProp} (hl : ∀ B ∈ l, Stable B) (h : Sts W (writerO p v ys ++ l) w) (d : Nat) :
    Sts W (rowP 5 1 v ys.length (u8s ys) :: blkP p (.cells #[.bool true, v] 304 (0, 0)) :: blkP w.heap.size (.cells #[.int .u8 (d : Int)] 5 (0, 0)) :: l) (w.alloc (.cells #[.int .u8 (d : Int)] 5)) ∧
    Rd (w.alloc (.cells #[.int .u8 (d : Int)] 5)) (.slice (some ⟨w.heap.size, 0, none⟩) 1 1) (u8s [d]) := by
  have hst := stabC (blkP_stable p (.cells #[.bool true, v] 304 (0, 0))) (stabC (rowP_stable 5 1 v ys.length (u8s ys)) hl)
  have h2 := Sts.alloc hst h (.cells #[.int .u8 (d : Int)] 5)
  refine ⟨(Sts.swap (Sts.third' h2)).perm ((List.Perm.refl _)), ?_⟩
  obtain ⟨F, q⟩ := Sts.head h2
  exact blk_rd q.1 rfl rfl (by decide)
theorem Sts.oneDone {W w : World} {p B d : Nat} {v v' : Value} {ys : List Nat} {o : Obj} {l : List HProp} (h : Sts W (blkP p (.cells ((#[.bool true, v] : Array Value).setIfInBounds 1 v') 304 (0, 0)) :: rowP 5 1 v' (ys.length + [d].length) (u8s (ys ++ [d])) :: blkP B o :: l) w) : Sts W (writerO p v' (ys ++ [d]) ++ l) w := by
  have h2 : Sts W (blkP p (.cells #[.bool true, v'] 304 (0, 0)) :: rowP 5 1 v' (ys.length + [d].length) (u8s (ys ++ [d])) :: l) w := h.third.tail
  unfold writerO
  rw [List.length_append]
  exact h2
set_option maxRecDepth 100000 in
set_option maxHeartbeats 1000000 in
theorem wInt (hl : ∀ B ∈ l, Stable B) (hs : Sts W (writerP p bs :: l) w) (n : Int) (h1 : -1099511627776 ≤ n) (h2 : n ≤ 1099511627776) (hbs : bs.length < 100000000) :
    Calls Tryz.prog 112 #[.pointer (some ⟨p, 0, none⟩), .int .i64 n] w fun e w' => e = .returned (.pointer (some ⟨p, 0, none⟩)) ∧ Sts W (writerP p (bs ++ Cmd.vint (Cmd.zig n)) :: l) w' := by
  obtain ⟨v, h0⟩ := Sts.openW hs
  obtain ⟨c0, c1, f1⟩ := wcells h0
  have H0 := hid h0
  have HZ := hid (cZig w n h1 h2)
  have hzl := Cmd.zig_lt n h1 h2
  have hvl := Cmd.vint_len 5 _ (show Cmd.zig n < 128 ^ (5 + 1) by omega)
  clear h0 hs h1 h2
  generalize Cmd.zig n = z at *
  go_enter Tryz.func112, Tryz.ntmps112
  go_wp2_with (first | (go_at_call 195; refine (cWOk _ _ (by assumption)).mono ?_; rintro e w' ⟨rfl, rfl⟩) | (go_at_call 196; refine HZ.out.mono ?_; rintro e w' ⟨rfl, rfl⟩))
  go_loopw [5] (fun i wr => ∃ y : Nat, y < 4398046511104 ∧ i = .int .u64 (y : Int) ∧ ∃ v ys, ys ++ Cmd.vint y = bs ++ Cmd.vint z ∧ Sts W (writerO p v ys ++ l) wr) (fun i _ => (intOf i).toNat)
  case atStart => exact ⟨z, hzl, rfl, v, bs, rfl, H0.out⟩
  case round =>
    obtain ⟨y, hy, rfl, v, ys, hys, hs⟩ := hrel
    have hyl : ys.length < 100000010 := by have := congrArg List.length hys; simp at this; omega
    clear c0 c1 f1 hvl H0
    obtain ⟨c0, c1, f1⟩ := wcells hs
    have HY := hid hys
    have HLt := hid hy
    clear hys hy
    by_cases hlt : y < 128
    · have hd : decide (128 ≤ (y : Int)) = false := decide_eq_false (by omega)
      have e8 : IntKind.u8.wrap (y : Int) = (y : Int) := by rw [IntKind.wrap_u8]; omega
      obtain ⟨h1, hR⟩ := Sts.oneMore hl hs y
      have H1 := hid h1
      have HR := hid hR
      have HL2 := hid (stabC (blkP_stable p (.cells #[.bool true, v] 304 (0, 0))) (stabC (blkP_stable wr.heap.size (.cells #[.int .u8 (y : Int)] 5 (0, 0))) hl))
      have HE : Hid (ys ++ [y] = bs ++ Cmd.vint z) := hid (by rw [← HY.out, Cmd.vint_lo hlt])
      clear h1 hR hs
      go_wp2_with (first
        | (at_builtin; refine wpList_app8 rfl (.tmp 31) (.tmp 34) rfl H1.out HL2.out rfl rfl HR.out (by intro c hc; cases hc) (by simp; omega) ?_; intro v1 w1 h2; obtain ⟨g1, cap1, rfl⟩ := own_pos h2.rowOwn (by simp); have H2 := hid h2.swap; clear h2)
        | (refine wpList_cellS H2.out (stabC (rowP_stable _ _ _ _ _) (stabTl HL2.out)) rfl (.tmp 37) (.tmp 35) 35 rfl 1 (.slice (some ⟨g1, 0, none⟩) (ys.length + [y].length) cap1) rfl rfl szSl8 (show 1 < 2 by decide) rfl ?_; intro w2 h3; have H3 := hid h3; clear h3))
      go_ret
      exact ⟨rfl, by rw [← HE.out]; exact Sts.closeW (Sts.oneDone H3.out)⟩
    · have hd : decide (128 ≤ (y : Int)) = true := decide_eq_true (by omega)
      have e8 : bits .or .u8 ((y : Int) % 256) 128 = ((y % 128 + 128 : Nat) : Int) := by rw [← or128 y, IntKind.wrap_u8]
      obtain ⟨d, hd2⟩ : ∃ d, d = y % 128 + 128 := ⟨_, rfl⟩
      rw [← hd2] at e8
      have HE : Hid ((ys ++ [d]) ++ Cmd.vint (y / 128) = bs ++ Cmd.vint z) := hid (by rw [← HY.out, Cmd.vint_hi hlt, hd2]; simp)
      clear hd2
      obtain ⟨h1, hR⟩ := Sts.oneMore hl hs d
      have H1 := hid h1
      have HR := hid hR
      have HL2 := hid (stabC (blkP_stable p (.cells #[.bool true, v] 304 (0, 0))) (stabC (blkP_stable wr.heap.size (.cells #[.int .u8 (d : Int)] 5 (0, 0))) hl))
      clear h1 hR hs
      go_wp2_with (first
        | (at_builtin; refine wpList_app8 rfl (.tmp 17) (.tmp 21) rfl H1.out HL2.out rfl rfl HR.out (by intro c hc; cases hc) (by simp; omega) ?_; intro v1 w1 h2; obtain ⟨g1, cap1, rfl⟩ := own_pos h2.rowOwn (by simp); have H2 := hid h2.swap; clear h2)
        | (refine wpList_cellS H2.out (stabC (rowP_stable _ _ _ _ _) (stabTl HL2.out)) rfl (.tmp 24) (.tmp 22) 35 rfl 1 (.slice (some ⟨g1, 0, none⟩) (ys.length + [d].length) cap1) rfl rfl szSl8 (show 1 < 2 by decide) rfl ?_; intro w2 h3; have H3 := hid h3; clear h3))
      go_roundw
      case rel => exact ⟨y / 128, by have := HLt.out; omega, val_int (by omega), _, ys ++ [d], HE.out, Sts.oneDone H3.out⟩
      case measure => simp [intOf]; omega
end
end Go.Proofs.YtnklmadmenkdoaaGreat
namespace Go.Proofs.YtnklmadmenkdoaaGreat
open Go.RowKit Go.Proofs.Num
section
variable {W w : World} {p : Nat} {bs : List Nat} {l : List HProp}
set_option maxRecDepth 100000 in
set_option maxHeartbeats 1000000 in
theorem wBlob (hl : ∀ B ∈ l, Stable B) (hs : Sts W (writerP p bs :: l) w) (a : Option Addr) (c : Nat) (m : List Nat) (hm : m.length < 1000000) (hv : a = none → c = 0) (hR : RdsB W l (.slice a m.length c) m) (hbs : bs.length < 10000000) :
    Calls Tryz.prog 114 #[.pointer (some ⟨p, 0, none⟩), .slice a m.length c] w fun e w' => e = .returned (.pointer (some ⟨p, 0, none⟩)) ∧ Sts W (writerP p (bs ++ Cmd.blobB m) :: l) w' := by
  obtain ⟨v, h0⟩ := Sts.openW hs
  obtain ⟨c0, c1, f1⟩ := wcells h0
  have HI := hid (wInt hl hs (m.length : Int) (by omega) (by omega) (by omega))
  have HV := hid hv
  have HR := hid hR
  have HM := hid hm
  have HL := hid hl
  clear h0 hs hv hR hl
  go_enter Tryz.func114, Tryz.ntmps114
  go_wp2_with (first | (go_at_call 195; refine (cWOk _ _ (by assumption)).mono ?_; rintro e w' ⟨rfl, rfl⟩))
  refine HI.out.mono ?_
  rintro e w1 ⟨rfl, h1⟩
  obtain ⟨v1, h2⟩ := Sts.openW h1
  have hvl := Cmd.vint_len 5 _ (show Cmd.zig (m.length : Int) < 128 ^ (5 + 1) by have := Cmd.zig_lt (m.length : Int) (by omega) (by omega); omega)
  obtain ⟨zs, hzs⟩ : ∃ zs, zs = bs ++ Cmd.vint (Cmd.zig (m.length : Int)) := ⟨_, rfl⟩
  have hzl : zs.length < 10000010 := by rw [hzs]; simp; omega
  have HE : Hid (bs ++ Cmd.blobB m = zs ++ m) := hid (by rw [hzs]; simp [Cmd.blobB])
  rw [← hzs] at h2
  obtain ⟨d0, d1, e1⟩ := wcells h2
  have H2 := hid h2.swap
  clear h1 h2 hzs hvl c0 c1 f1
  go_wp2_with (first
    | (at_builtin; refine wpList_app8 rfl (.tmp 16) (.tmp 17) rfl H2.out (stabC (blkP_stable _ _) HL.out) rfl rfl (HR.out.at H2.out.tail).1 (by intro c hc; injection hc with h1 h2 h3; rw [← h3]; exact HV.out h1) (by omega) ?_; intro v2 w2 h3; have H3 := hid h3.swap; have hvs := own_slice h3.rowOwn; obtain ⟨a2, c2, rfl⟩ := hvs; clear h3)
    | (refine wpList_cellS H3.out (stabC (rowP_stable _ _ _ _ _) HL.out) rfl (.tmp 20) (.tmp 18) 35 rfl 1 (.slice a2 (zs.length + m.length) c2) rfl rfl szSl8 (show 1 < 2 by decide) rfl ?_; intro w3 h4; have H4 := hid h4; clear h4))
  go_ret
  refine ⟨rfl, ?_⟩
  rw [HE.out]
  have h5 : Sts W (writerO p (.slice a2 (zs.length + m.length) c2) (zs ++ m) ++ l) w3 := by
    unfold writerO
    rw [List.length_append]
    exact H4.out
  exact Sts.closeW h5
end
/-- A writer of bits at block p: n bits with the value x. -/
def bwO (p n x : Nat) (v : Value) : List HProp := [blkP p (.cells #[.bool true, v, .int .i64 (n : Int)] 345 (0, 0)), rowP 5 1 v (Bitw.bytes n) (u8s (Bitw.pk n x))]
def bwP (p n x : Nat) : HProp := fun w F => ∃ v, star (blkP p (.cells #[.bool true, v, .int .i64 (n : Int)] 345 (0, 0))) (rowP 5 1 v (Bitw.bytes n) (u8s (Bitw.pk n x))) w F
theorem bwP_stable (p n x : Nat) : Stable (bwP p n x) where
  dom := by rintro w F ⟨v, h⟩; exact (star_stable (blkP_stable _ _) (rowP_stable _ _ _ _ _)).dom h
  keep := by rintro w w' F S ⟨v, h⟩ hk hS; exact ⟨v, (star_stable (blkP_stable _ _) (rowP_stable _ _ _ _ _)).keep h hk hS⟩
theorem Sts.openBW {W w : World} {p n x : Nat} {l : List HProp} (h : Sts W (bwP p n x :: l) w) : ∃ v, Sts W (bwO p n x v ++ l) w := by
  obtain ⟨F, ⟨F1, F2, ⟨v, a⟩, r⟩, hb, hn⟩ := h
  exact ⟨v, Sts.split ⟨F, ⟨F1, F2, a, r⟩, hb, hn⟩⟩
theorem Sts.closeBW {W w : World} {p n x : Nat} {v : Value} {l : List HProp} (h : Sts W (bwO p n x v ++ l) w) : Sts W (bwP p n x :: l) w :=
  Sts.join h (fun F hF => ⟨v, hF⟩)
set_option maxRecDepth 100000 in
theorem cBwOk (w : World) (p : Nat) (h : w.cell? ⟨p, 0, none⟩ = some (.bool true)) : Calls Tryz.prog 237 #[.pointer (some ⟨p, 0, none⟩)] w fun e w' => e = .returned (.bool true) ∧ w = w' := by
  go_enter Tryz.func237, Tryz.ntmps237
  go_wp2
  go_ret
  exact ⟨rfl, rfl⟩
end Go.Proofs.YtnklmadmenkdoaaGreat
namespace Go.Proofs.YtnklmadmenkdoaaGreat
open Go.RowKit Go.Proofs.Num
theorem Sts.rowStoreB {W w : World} {e : TypeId} {g cap n : Nat} {xs : List Nat} {l : List HProp} (hl : ∀ A ∈ l, Stable A) (h : Sts W (rowP e 1 (.slice (some ⟨g, 0, none⟩) n cap) n (u8s xs) :: l) w) (i x : Nat) :
    Sts W (rowP e 1 (.slice (some ⟨g, 0, none⟩) n cap) n (u8s (xs.set i x)) :: l) (w.setCell ⟨g, i, none⟩ (.int .u8 (x : Int))) := by
  have h2 := Sts.rowStore hl h i (.int .u8 (x : Int))
  rw [show (u8s xs).set i (.int .u8 (x : Int)) = u8s (xs.set i x) by simp [u8s, List.map_set]] at h2
  exact h2
set_option maxRecDepth 100000 in
theorem szInt : ∀ w, (Go.sizeOf 3).run Tryz.prog w = .ok 1 w := fun w => by first | rfl | simp [go_sem] | kernel_rfl
section
variable {W w : World} {p n x : Nat} {l : List HProp}
set_option maxRecDepth 100000 in
set_option maxHeartbeats 2000000 in
/-- Within a round: the bit goes into its byte. -/
theorem wPut (hl : ∀ B ∈ l, Stable B) (hs : Sts W (bwP p n x :: l) w) (y m : Nat) (hy : y < 18446744073709551616) (hm : m ≤ 64) (hn : n < 1000000) :
    Calls Tryz.prog 166 #[.pointer (some ⟨p, 0, none⟩), .int .u64 (y : Int), .int .i64 (m : Int)] w fun e w' => e = .returned (.pointer (some ⟨p, 0, none⟩)) ∧ Sts W (bwP p (n + m) (x * 2 ^ m + y % 2 ^ m) :: l) w' := by
  obtain ⟨v, h0⟩ := Sts.openBW hs
  have c0 : w.cell? ⟨p, 0, none⟩ = some (.bool true) := (Sts.boxCell h0 0 _ rfl).1
  have HOK := hid (cBwOk w p c0)
  have H0 := hid h0
  have d1 : decide ((m : Int) < 0) = false := decide_eq_false (by omega)
  have d2 : decide (64 < (m : Int)) = false := decide_eq_false (by omega)
  have HL := hid hl
  have HY := hid hy
  have HN := hid hn
  have HM := hid hm
  clear h0 hs c0 hl hy hn hm
  go_enter Tryz.func166, Tryz.ntmps166
  go_wp2_with (first | (go_at_call 237; refine HOK.out.mono ?_; rintro e w' ⟨rfl, rfl⟩))
  go_loopw [20] (fun i wr => ∃ k : Nat, k ≤ m ∧ i = .int .i64 (k : Int) ∧ ∃ v, Sts W (bwO p (n + k) (x * 2 ^ k + y % 2 ^ m / 2 ^ (m - k)) v ++ l) wr) (fun i _ => m - (intOf i).toNat)
  case atStart => exact ⟨0, Nat.zero_le _, rfl, v, by have h := H0.out; rwa [Nat.add_zero, Nat.pow_zero, Nat.mul_one, Nat.sub_zero, Nat.div_eq_of_lt (Nat.mod_lt _ (Nat.two_pow_pos m)), Nat.add_zero]⟩
  case round =>
    obtain ⟨k, hk, rfl, v, hs⟩ := hrel
    clear H0 HOK d1 d2
    by_cases hlt : k < m
    · have hst := Bitw.put_step y m k hlt x
      obtain ⟨V, hV⟩ : ∃ V, V = x * 2 ^ k + y % 2 ^ m / 2 ^ (m - k) := ⟨_, rfl⟩
      obtain ⟨N, hN⟩ : ∃ N, N = n + k := ⟨_, rfl⟩
      obtain ⟨s, hsE⟩ : ∃ s, s = m - 1 - k := ⟨_, rfl⟩
      have hn' : N < 1000100 := by have := HN.out; have := HM.out; omega
      rw [← hV, ← hN] at hs
      rw [← hV, ← hsE] at hst
      obtain ⟨b, hb⟩ : ∃ b, b = y / 2 ^ s % 2 := ⟨_, rfl⟩
      have hb2 : b < 2 := by rw [hb]; exact Nat.mod_lt _ (by decide)
      rw [← hb] at hst
      obtain ⟨x0, hx0, hx1, hx2, hx3⟩ := Bitw.nx_put N V b hb2
      have HG : Hid (∀ v w', Sts W (bwO p (N + 1) (V * 2 + b) v ++ l) w' → Sts W (bwO p (n + (k + 1)) (x * 2 ^ (k + 1) + y % 2 ^ m / 2 ^ (m - (k + 1))) v ++ l) w') := hid (by
        intro v w' h; rw [hst, hN] at h; exact h)
      have hk64 : k < 64 := by have := HM.out; omega
      obtain ⟨m1, hm1⟩ : ∃ m1, m1 = m - 1 := ⟨_, rfl⟩
      have e1 : wrap64 ((m : Int) - 1) = (m1 : Int) := by have := HM.out; unfold wrap64; omega
      have e2 : wrap64 ((m1 : Int) - (k : Int)) = (s : Int) := by have := HM.out; unfold wrap64; omega
      have hs64 : s < 64 := by have := HM.out; omega
      have HS := hid hsE
      have HB2 := hid hb
      obtain ⟨q, hq⟩ : ∃ q, q = N / 8 := ⟨_, rfl⟩
      obtain ⟨r, hr⟩ : ∃ r, r = N % 8 := ⟨_, rfl⟩
      obtain ⟨t, ht⟩ : ∃ t, t = 7 - N % 8 := ⟨_, rfl⟩
      obtain ⟨d, hd⟩ : ∃ d, d = b * 2 ^ t := ⟨_, rfl⟩
      obtain ⟨x1, hx1e⟩ : ∃ x1, x1 = x0 ||| d := ⟨_, rfl⟩
      have hd256 : d < 256 := by
        have h1 : 2 ^ t ≤ 2 ^ 7 := Nat.pow_le_pow_right (by decide) (by omega)
        rcases (show b = 0 ∨ b = 1 by omega) with h | h <;> rw [hd, h] <;> omega
      rw [← hq] at hx0
      rw [← ht, ← hd, ← hx1e] at hx2 hx3
      rw [← hq] at hx2
      have g1 : (N : Int) / 8 = (q : Int) := by omega
      have g2 : (N : Int) % 8 = (r : Int) := by omega
      have g3 : (N : Int).tmod 8 = (r : Int) := by rw [Int.tmod_eq_emod_of_nonneg (by omega)]; exact g2
      have g4 : IntKind.i64.wrap (q : Int) = (q : Int) := by rw [IntKind.wrap_i64]; omega
      have g5 : IntKind.i64.wrap (7 - (r : Int)) = (t : Int) := by rw [IntKind.wrap_i64]; omega
      have g6 : bits .and .u64 ((y : Int) / 2 ^ s) 1 = (b : Int) := by
        rw [hb, show (y : Int) / 2 ^ s = ((y / 2 ^ s : Nat) : Int) by simp, show (1 : Int) = ((1 : Nat) : Int) from rfl, u64_and_nat _ _ (Nat.lt_of_le_of_lt (Nat.div_le_self _ _) HY.out) (by decide), Nat.and_one_is_mod]
      have g7 : (b : Int) % 256 = (b : Int) := by omega
      have g8 : IntKind.u8.wrap ((b : Int) * 2 ^ t) = (d : Int) := by
        rw [IntKind.wrap_u8, show (b : Int) * 2 ^ t = (d : Int) by rw [hd]; simp]; omega
      have g9 : bits .or .u8 (x0 : Int) (d : Int) = (x1 : Int) := by rw [u8_or_nat _ _ hx1 hd256, hx1e]
      have ht8 : t < 8 := by omega
      have g10 : (q : Int) < (q : Int) + 1 := by omega
      have HQ := hid hq
      have HR := hid hr
      clear hst hV hN hsE hm1 hb hq hr ht hd hx1e
      have HX0 : Hid ((u8s (Bitw.nx N V))[q]? = some (.int .u8 (x0 : Int))) := hid (by simp [u8s, hx0])
      have HX2 := hid hx2
      have HX3 := hid hx3
      have HK := hid hlt
      have c1 : wr.cell? ⟨p, 1, none⟩ = some v := (Sts.boxCell hs 1 _ rfl).1
      have c2 : wr.cell? ⟨p, 2, none⟩ = some (.int .i64 (N : Int)) := (Sts.boxCell hs 2 _ rfl).1
      clear hx0 hx2 hx3
      by_cases h8 : N % 8 = 0
      · have HNX : Hid (Bitw.pk N V ++ [0] = Bitw.nx N V) := hid (Bitw.nx_new N V h8).symm
        have b8 : ((r : Int) == 0) = true := by have := HR.out; rw [beq_iff_eq]; omega
        have hpl := Bitw.pk_len N V
        have hbl : Bitw.bytes N = q := by have := HQ.out; unfold Bitw.bytes; omega
        rw [hbl] at hpl
        have hst := stabC (blkP_stable p (.cells #[.bool true, v, .int .i64 (N : Int)] 345 (0, 0))) (stabC (rowP_stable 5 1 v (Bitw.pk N V).length (u8s (Bitw.pk N V))) HL.out)
        have hs' : Sts W (blkP p (.cells #[.bool true, v, .int .i64 (N : Int)] 345 (0, 0)) :: rowP 5 1 v (Bitw.pk N V).length (u8s (Bitw.pk N V)) :: l) wr := by rw [hpl, ← hbl]; exact hs
        have h2 := Sts.alloc hst hs' (.cells #[.int .u8 0] 5)
        have HR0 : Hid (Rd (wr.alloc (.cells #[.int .u8 0] 5)) (.slice (some ⟨wr.heap.size, 0, none⟩) 1 1) (u8s [0])) := hid (by obtain ⟨F, q⟩ := Sts.head h2; exact blk_rd q.1 rfl rfl (by decide))
        have H1 := hid (Sts.swap (Sts.third' h2))
        have HPL := hid hpl
        have hpm : (Bitw.pk N V).length < 10000000 := by omega
        clear hs hs' h2 hst hpl hbl
        go_wp2_with (first
          | (at_builtin; refine wpList_app8 rfl (.tmp 33) (.tmp 34) rfl H1.out (stabC (blkP_stable _ _) (stabC (blkP_stable _ _) HL.out)) rfl rfl HR0.out (by intro c hc; cases hc) (by simp; omega) ?_; intro v1 wa h2; obtain ⟨a1, ca1, rfl⟩ := own_slice h2.rowOwn; have H2 := hid h2.swap; clear h2)
          | (refine wpList_cellS H2.out (stabC (rowP_stable _ _ _ _ _) (stabC (blkP_stable _ _) HL.out)) rfl (.tmp 37) (.tmp 35) 35 rfl 1 (.slice a1 ((Bitw.pk N V).length + [0].length) ca1) rfl rfl szSl8 (show 1 < 3 by decide) rfl ?_; intro WB h3; have HB : Hid (Sts W (blkP p (.cells #[.bool true, .slice a1 (q + 1) ca1, .int .i64 (N : Int)] 345 (0, 0)) :: rowP 5 1 (.slice a1 (q + 1) ca1) (q + 1) (u8s (Bitw.nx N V)) :: l) WB) := hid (by rw [← HNX.out, ← HPL.out]; exact h3.third.tail); clear h3 H2 H1
             obtain ⟨gb, cap1, hgb⟩ := own_pos HB.out.tail.rowOwn (by omega)
             injection hgb with i1 i2 i3
             subst i1; subst i3; clear i2
             have q1 : WB.cell? ⟨p, 1, none⟩ = some (.slice (some ⟨gb, 0, none⟩) (q + 1) ca1) := (Sts.boxCell HB.out 1 _ rfl).1
             have q2 : WB.cell? ⟨p, 2, none⟩ = some (.int .i64 (N : Int)) := (Sts.boxCell HB.out 2 _ rfl).1))
        refine wp_region_ordS (fun i => i == 21) (.pure 0 (.pure 1 (.pure 2 (.pure 3 (.pure 4 (.pure 5 (.pure 6 (.pure 7 (.pure 8 (.pure 9 (.pure 10 (.pure 11 (.pure 12 (.pure 13 (.pure 14 (.pure 15 (.pure 16 (.pure 17 (.pure 18 (.pure 19 (.pure 20 (.eff 21 .nil)))))))))))))))))))))) (fun y => y.cell? ⟨p, 1, none⟩ = some (.slice (some ⟨gb, 0, none⟩) (q + 1) ca1) ∧ y.cell? ⟨p, 2, none⟩ = some (.int .i64 (N : Int)) ∧ y.cell? ⟨gb, q, none⟩ = some (.int .u8 (x0 : Int))) (fun y => Sts W (blkP p (.cells #[.bool true, .slice (some ⟨gb, 0, none⟩) (q + 1) ca1, .int .i64 (N : Int)] 345 (0, 0)) :: rowP 5 1 (.slice (some ⟨gb, 0, none⟩) (q + 1) ca1) (q + 1) (u8s (Bitw.nx N V)) :: l) y) (by kernel_rfl) (by kernel_rfl) (HB.out.drew (stabC (blkP_stable _ _) (stabC (rowP_stable _ _ _ _ _) HL.out))) (fun y hy => ⟨(Sts.boxCell hy 1 _ rfl).1, (Sts.boxCell hy 2 _ rfl).1, Sts.rowCell hy.tail q (by omega) _ HX0.out⟩) ?_
        iterate 21
          (apply ord_pure (ho := rfl)
           · go_simp
           · intro z hz; obtain ⟨k1, k2, k3⟩ := hz; go_simp; rfl
           apply ord_norm
           · go_simp; rfl)
        apply ord_eff (ho := rfl)
        · go_simp
        intro z hz
        have z1 := Sts.rowCell hz.tail q (by omega) _ HX0.out
        have zf := Sts.rowFree hz.tail q
        have hS1 := Sts.rowStoreB (stabC (blkP_stable _ _) HL.out) hz.swap q x1
        rw [HX2.out] at hS1
        refine effS_skip (fun _ => True) (fun y => Sts W (rowP 5 1 (.slice (some ⟨gb, 0, none⟩) (q + 1) ca1) (q + 1) (u8s (Bitw.pk (N + 1) (V * 2 + b))) :: blkP p (.cells #[.bool true, .slice (some ⟨gb, 0, none⟩) (q + 1) ca1, .int .i64 (N : Int)] 345 (0, 0)) :: l) y) (w := z.setCell ⟨gb, q, none⟩ (.int .u8 (x1 : Int))) rfl ?_ hS1 (fun _ _ => trivial) ?_
        · go_simp
        apply ord_norm
        · go_simp; rfl
        refine ord_nil fun z2 hz2 => ?_
        have HZ := hid hz2.swap
        clear hz2 hS1 hz z1 zf q1 q2 HB
        have r2 := (Sts.boxCell HZ.out 2 _ rfl).1
        go_wp2_with (first
          | (refine wpList_cellS HZ.out (stabC (rowP_stable _ _ _ _ _) HL.out) rfl (.tmp 73) (.tmp 71) 3 rfl 2 (.int .i64 ((N : Int) + 1)) rfl rfl szInt (show 2 < 3 by decide) rfl ?_; intro w5 h5; have H5 := hid h5; clear h5))
        go_roundw
        case rel =>
          refine ⟨k + 1, by have := HK.out; omega, by first | rfl | go_num, _, HG.out (.slice (some ⟨gb, 0, none⟩) (q + 1) ca1) _ ?_⟩
          have hb1 : Bitw.bytes (N + 1) = q + 1 := by have := HQ.out; unfold Bitw.bytes; omega
          unfold bwO
          rw [hb1]
          exact H5.out
        case measure => simp [intOf]; have := HK.out; omega
      · have HNX : Hid (Bitw.nx N V = Bitw.pk N V) := hid (Bitw.nx_in N V h8)
        have b8 : ((r : Int) == 0) = false := by have := HR.out; rw [beq_eq_false_iff_ne]; omega
        have hbl : Bitw.bytes N = q + 1 := by have := HQ.out; unfold Bitw.bytes; omega
        have HB : Hid (Sts W (blkP p (.cells #[.bool true, v, .int .i64 (N : Int)] 345 (0, 0)) :: rowP 5 1 v (q + 1) (u8s (Bitw.nx N V)) :: l) wr) := hid (by rw [HNX.out, ← hbl]; exact hs)
        clear hs
        go_wp2_with fail
        obtain ⟨gb, cap1, rfl⟩ := own_pos HB.out.tail.rowOwn (by omega)
        have q1 : wr.cell? ⟨p, 1, none⟩ = some (.slice (some ⟨gb, 0, none⟩) (q + 1) cap1) := (Sts.boxCell HB.out 1 _ rfl).1
        have q2 : wr.cell? ⟨p, 2, none⟩ = some (.int .i64 (N : Int)) := (Sts.boxCell HB.out 2 _ rfl).1
        go_wp2_with fail
        refine wp_region_ordS (fun i => i == 21) (.pure 0 (.pure 1 (.pure 2 (.pure 3 (.pure 4 (.pure 5 (.pure 6 (.pure 7 (.pure 8 (.pure 9 (.pure 10 (.pure 11 (.pure 12 (.pure 13 (.pure 14 (.pure 15 (.pure 16 (.pure 17 (.pure 18 (.pure 19 (.pure 20 (.eff 21 .nil)))))))))))))))))))))) (fun y => y.cell? ⟨p, 1, none⟩ = some (.slice (some ⟨gb, 0, none⟩) (q + 1) cap1) ∧ y.cell? ⟨p, 2, none⟩ = some (.int .i64 (N : Int)) ∧ y.cell? ⟨gb, q, none⟩ = some (.int .u8 (x0 : Int))) (fun y => Sts W (blkP p (.cells #[.bool true, .slice (some ⟨gb, 0, none⟩) (q + 1) cap1, .int .i64 (N : Int)] 345 (0, 0)) :: rowP 5 1 (.slice (some ⟨gb, 0, none⟩) (q + 1) cap1) (q + 1) (u8s (Bitw.nx N V)) :: l) y) (by kernel_rfl) (by kernel_rfl) (HB.out.drew (stabC (blkP_stable _ _) (stabC (rowP_stable _ _ _ _ _) HL.out))) (fun y hy => ⟨(Sts.boxCell hy 1 _ rfl).1, (Sts.boxCell hy 2 _ rfl).1, Sts.rowCell hy.tail q (by omega) _ HX0.out⟩) ?_
        iterate 21
          (apply ord_pure (ho := rfl)
           · go_simp
           · intro z hz; obtain ⟨k1, k2, k3⟩ := hz; go_simp; rfl
           apply ord_norm
           · go_simp; rfl)
        apply ord_eff (ho := rfl)
        · go_simp
        intro z hz
        have z1 := Sts.rowCell hz.tail q (by omega) _ HX0.out
        have zf := Sts.rowFree hz.tail q
        have hS1 := Sts.rowStoreB (stabC (blkP_stable _ _) HL.out) hz.swap q x1
        rw [HX2.out] at hS1
        refine effS_skip (fun _ => True) (fun y => Sts W (rowP 5 1 (.slice (some ⟨gb, 0, none⟩) (q + 1) cap1) (q + 1) (u8s (Bitw.pk (N + 1) (V * 2 + b))) :: blkP p (.cells #[.bool true, .slice (some ⟨gb, 0, none⟩) (q + 1) cap1, .int .i64 (N : Int)] 345 (0, 0)) :: l) y) (w := z.setCell ⟨gb, q, none⟩ (.int .u8 (x1 : Int))) rfl ?_ hS1 (fun _ _ => trivial) ?_
        · go_simp
        apply ord_norm
        · go_simp; rfl
        refine ord_nil fun z2 hz2 => ?_
        have HZ := hid hz2.swap
        clear hz2 hS1 hz z1 zf q1 q2 HB
        have r2 := (Sts.boxCell HZ.out 2 _ rfl).1
        go_wp2_with (first
          | (refine wpList_cellS HZ.out (stabC (rowP_stable _ _ _ _ _) HL.out) rfl (.tmp 73) (.tmp 71) 3 rfl 2 (.int .i64 ((N : Int) + 1)) rfl rfl szInt (show 2 < 3 by decide) rfl ?_; intro w5 h5; have H5 := hid h5; clear h5))
        go_roundw
        case rel =>
          refine ⟨k + 1, by have := HK.out; omega, by first | rfl | go_num, _, HG.out (.slice (some ⟨gb, 0, none⟩) (q + 1) cap1) _ ?_⟩
          have hb1 : Bitw.bytes (N + 1) = q + 1 := by have := HQ.out; unfold Bitw.bytes; omega
          unfold bwO
          rw [hb1]
          exact H5.out
        case measure => simp [intOf]; have := HK.out; omega
    · have hkm : k = m := by omega
      subst hkm
      have HE : Hid (Sts W (bwO p (n + k) (x * 2 ^ k + y % 2 ^ k) v ++ l) wr) := hid (by rwa [Nat.sub_self, Nat.pow_zero, Nat.div_one] at hs)
      clear hs
      go_wp2_with fail
      go_ret
      exact ⟨rfl, Sts.closeBW HE.out⟩
end
end Go.Proofs.YtnklmadmenkdoaaGreat
namespace Crc

def iter (S : Nat → Nat) : Nat → Nat → Nat
  | 0, c => c
  | n + 1, c => iter S n (S c)
theorem iter_succ (S : Nat → Nat) (n c : Nat) : iter S (n + 1) c = S (iter S n c) := by
  induction n generalizing c with
  | zero => rfl
  | succ n ih => exact ih _
/-! ### CRC-16 -/
def S16 (c : Nat) : Nat := c * 2 % 65536 ^^^ (if c.testBit 15 then 4129 else 0)
theorem S16_hi (r : Nat) (hr : r < 65536) (h : r / 32768 = 1) : S16 r = r * 2 % 65536 ^^^ 4129 := by
  have hb : r.testBit 15 = true := by
    rw [Nat.testBit_eq_decide_div_mod_eq]
    have : r / 2 ^ 15 % 2 = r / 32768 := by show r / 32768 % 2 = _; omega
    rw [this]; simp [h]
  unfold S16; rw [hb]; rfl
theorem S16_lo (r : Nat) (h : r / 32768 = 0) : S16 r = r * 2 % 65536 := by
  have hb : r.testBit 15 = false := by
    rw [Nat.testBit_eq_decide_div_mod_eq]
    have : r / 2 ^ 15 % 2 = 0 := by show r / 32768 % 2 = _; omega
    rw [this]; rfl
  unfold S16; rw [hb]; simp
theorem S16_lt (r : Nat) : S16 r < 65536 := by
  have h1 : r * 2 % 65536 < 2 ^ 16 := Nat.mod_lt _ (by decide)
  have h2 : (if r.testBit 15 then 4129 else 0) < 2 ^ 16 := by split <;> decide
  exact Nat.xor_lt_two_pow h1 h2
/-- One byte, as the program does it. -/
def B16 (c x : Nat) : Nat := iter S16 8 (c ^^^ x * 256)
def crc16 (c : Nat) : List Nat → Nat
  | [] => c
  | x :: l => crc16 (B16 c x) l
theorem crc16_snoc (c : Nat) (l : List Nat) (x : Nat) : crc16 c (l ++ [x]) = B16 (crc16 c l) x := by
  induction l generalizing c with
  | nil => rfl
  | cons y l ih => exact ih _
theorem iterS16_lt (n c : Nat) (h : c < 65536) : iter S16 n c < 65536 := by
  induction n generalizing c with
  | zero => exact h
  | succ n ih => exact ih _ (S16_lt c)
theorem B16_lt (c x : Nat) (hc : c < 65536) (hx : x < 256) : B16 c x < 65536 := by
  refine iterS16_lt 8 _ ?_
  exact Nat.xor_lt_two_pow (n := 16) hc (by omega)
theorem crc16_lt (c : Nat) (l : List Nat) (hc : c < 65536) (hl : ∀ x ∈ l, x < 256) : crc16 c l < 65536 := by
  induction l generalizing c with
  | nil => exact hc
  | cons x l ih => exact ih _ (B16_lt c x hc (hl x (by simp))) (fun y hy => hl y (by simp [hy]))
/-! ### CRC-32C -/
end Crc
