/- The reader of bits: new, whether it serves, what is left, a skip. The reader of bits: the next bits as a number. The marker, a frame behind it, a copy of bytes. Equal bytes; where the marker begins. Reports of verification: which may follow, which can be encoded. -/
import Derived.Test.YtnklmadmenkdoaaGreatQSnrC
set_option linter.unusedVariables false
set_option linter.unusedSimpArgs false
namespace Go.Proofs.YtnklmadmenkdoaaGreat
open Go.RowKit Go.Shelf Go.Proofs.Num
/-- A reader of bits, taken apart: at bit k of bs. -/
def brO (p k : Nat) (v : Value) (bs : List Nat) : List HProp := [blkP p (.cells #[.bool true, v, .int .i64 (k : Int), .bool false] 308 (0, 0)), rowP 5 1 v bs.length (u8s bs)]
theorem brO_stable (p k : Nat) (v : Value) (bs : List Nat) {l : List HProp} (hl : ∀ B ∈ l, Stable B) : ∀ B ∈ brO p k v bs ++ l, Stable B := stabC (blkP_stable _ _) (stabC (rowP_stable _ _ _ _ _) hl)
section
variable {W w : World} {l : List HProp}
set_option maxRecDepth 100000 in
theorem cBrNew (hl : ∀ B ∈ l, Stable B) (hs : Sts W l w) (v : Value) (bs : List Nat) (hv : RdB w v bs) (hnil : NilOk v) (hn : bs.length < 1000000) :
    Calls Tryz.prog 125 #[v] w fun e w' => ∃ p r, e = .returned (.pointer (some ⟨p, 0, none⟩)) ∧ Sts W (brO p 0 r bs ++ l) w' := by
  have H1 := hid (Sts.lit0 5 hl hs)
  have HR : Hid (Rd (w.alloc (.cells #[] 5)) v (u8s bs)) := hid (hv.1.below ((Below.refl _ _).alloc (Nat.le_refl _) _))
  have HNK := hid hnil
  have HL := hid hl
  have hlen : ([] : List Nat).length + bs.length < 1000000000 := by simp; omega
  clear hs hl hv hnil
  go_enter Tryz.func125, Tryz.ntmps125
  go_wp2_with (first
    | (at_builtin; refine wpList_app8 (l := []) rfl (.tmp 3) (.tmp 4) rfl H1.out HL.out rfl rfl HR.out HNK.out hlen ?_; intro v1 w1 h2; obtain ⟨ra, rc, rfl⟩ := own_slice h2.rowOwn; have H2 := hid h2; clear h2))
  go_ret
  refine ⟨w1.heap.size, .slice ra bs.length rc, rfl, ?_⟩
  have h3 := H2.out
  rw [List.nil_append, List.length_nil, Nat.zero_add] at h3
  exact Sts.alloc (stabC (rowP_stable _ _ _ _ _) HL.out) h3 _
set_option maxRecDepth 100000 in
theorem cBrOk (w : World) (p : Nat) (h : w.cell? ⟨p, 0, none⟩ = some (.bool true)) (h3 : w.cell? ⟨p, 3, none⟩ = some (.bool false)) : Calls Tryz.prog 202 #[.pointer (some ⟨p, 0, none⟩)] w fun e w' => e = .returned (.bool true) ∧ w = w' := by
  go_enter Tryz.func202, Tryz.ntmps202
  go_wp2
  go_ret
  exact ⟨rfl, rfl⟩
theorem left_facts (k n : Nat) (hn : n < 1000000) (hk : k ≤ 8 * n) : wrap64 (8 * (n : Int)) = 8 * (n : Int) ∧ wrap64 (8 * (n : Int) - (k : Int)) = ((8 * n - k : Nat) : Int) := by
  constructor <;> (unfold wrap64; omega)
set_option maxRecDepth 100000 in
theorem cBrLeft (w : World) (p k n : Nat) (a : Option Addr) (c : Nat) (h : w.cell? ⟨p, 0, none⟩ = some (.bool true)) (h3 : w.cell? ⟨p, 3, none⟩ = some (.bool false)) (h1 : w.cell? ⟨p, 1, none⟩ = some (.slice a n c)) (h2 : w.cell? ⟨p, 2, none⟩ = some (.int .i64 (k : Int))) (hn : n < 1000000) (hk : k ≤ 8 * n) :
    Calls Tryz.prog 203 #[.pointer (some ⟨p, 0, none⟩)] w fun e w' => e = .returned (.int .i64 ((8 * n - k : Nat) : Int)) ∧ ∃ m, w' = w.drewN m := by
  have HOK := hid (cBrOk w p h h3)
  obtain ⟨g1, g2⟩ := left_facts k n hn hk
  have G2 := hid g2
  clear g2 hk hn
  go_enter Tryz.func203, Tryz.ntmps203
  go_wp2_with (first | (go_at_call 202; refine HOK.out.mono ?_; rintro e w' ⟨rfl, rfl⟩))
  go_quiet (fail)
  rw [G2.out]
  go_wp2_with fail
  go_ret
  exact ⟨rfl, _, rfl⟩
set_option maxRecDepth 100000 in
theorem cBrSkip (hl : ∀ B ∈ l, Stable B) (p k n : Nat) (v : Value) (bs : List Nat) (hs : Sts W (brO p k v bs ++ l) w) (hn : bs.length < 1000000) (hk : k + n ≤ 8 * bs.length) :
    Calls Tryz.prog 126 #[.pointer (some ⟨p, 0, none⟩), .int .i64 (n : Int)] w fun e w' => e = .returned (.tuple #[]) ∧ Sts W (brO p (k + n) v bs ++ l) w' := by
  obtain ⟨a, c, rfl⟩ := own_slice hs.tail.rowOwn
  have b0 : w.cell? ⟨p, 0, none⟩ = some (.bool true) := (Sts.boxCell hs 0 _ rfl).1
  have b1 : w.cell? ⟨p, 1, none⟩ = some (.slice a bs.length c) := (Sts.boxCell hs 1 _ rfl).1
  have b2 : w.cell? ⟨p, 2, none⟩ = some (.int .i64 (k : Int)) := (Sts.boxCell hs 2 _ rfl).1
  have b3 : w.cell? ⟨p, 3, none⟩ = some (.bool false) := (Sts.boxCell hs 3 _ rfl).1
  have f2 := (Sts.boxCell hs 2 _ rfl).2
  have HOK := hid (cBrOk w p b0 b3)
  have HLF := hid (cBrLeft w p k bs.length a c b0 b3 b1 b2 hn (by omega))
  have d1 : decide ((n : Int) < 0) = false := decide_eq_false (by omega)
  have d2 : decide (((8 * bs.length - k : Nat) : Int) < (n : Int)) = false := decide_eq_false (by omega)
  have e1 : wrap64 ((k : Int) + (n : Int)) = ((k + n : Nat) : Int) := by unfold wrap64; omega
  have HS := hid hs
  have HL := hid hl
  have E1 := hid e1
  clear hs hl hn e1
  obtain ⟨z, hz⟩ : ∃ z, z = 8 * bs.length - k := ⟨_, rfl⟩
  rw [← hz] at HLF d2
  have d3 : decide (z < n) = false := decide_eq_false (by omega)
  have d4 : decide (n > z) = false := decide_eq_false (by omega)
  clear hz hk
  go_enter Tryz.func126, Tryz.ntmps126
  go_wp2_with (first
    | (go_at_call 202; refine HOK.out.mono ?_; rintro e w' ⟨rfl, rfl⟩)
    | (go_at_call 203; refine HLF.out.mono ?_; rintro e w' ⟨rfl, m, rfl⟩; have b2' : (w.drewN m).cell? ⟨p, 2, none⟩ = some (.int .i64 (k : Int)) := b2; have f2' : (w.drewN m).frozen? ⟨p, 2, none⟩ = false := f2))
  rw [E1.out]
  go_end0
  refine ⟨rfl, ?_⟩
  have h4 := Sts.store (stabC (rowP_stable _ _ _ _ _) HL.out) (Sts.quiet (brO_stable p k _ bs HL.out) HS.out (below_drewN (Below.refl _ _) m)) (j := 2) (.int .i64 ((k + n : Nat) : Int))
  exact h4
end
end Go.Proofs.YtnklmadmenkdoaaGreat
namespace Bitr
/-- The i-th bit. -/
def bit (bs : List Nat) (i : Nat) : Nat := bs.getD (i / 8) 0 / 2 ^ (7 - i % 8) % 2
/-- n bits from bit k on. -/
def num (bs : List Nat) (k : Nat) : Nat → Nat
  | 0 => 0
  | n + 1 => num bs k n * 2 + bit bs (k + n)
theorem bit_lt (bs : List Nat) (i : Nat) : bit bs i < 2 := Nat.mod_lt _ (by decide)
theorem num_lt (bs : List Nat) (k : Nat) : ∀ n, num bs k n < 2 ^ n
  | 0 => by simp [num]
  | n + 1 => by have := num_lt bs k n; have := bit_lt bs (k + n); simp only [num]; rw [Nat.pow_succ]; omega
end Bitr
namespace Go.Proofs.YtnklmadmenkdoaaGreat
open Go.RowKit Go.Shelf Go.Proofs.Num
theorem or_bit (X d : Nat) (hX : X * 2 < 18446744073709551616) (hd : d < 2) : bits .or .u64 (IntKind.u64.wrap ((X : Int) * 2)) (IntKind.u64.wrap (d : Int)) = ((X * 2 + d : Nat) : Int) := by
  have e1 : IntKind.u64.wrap ((X : Int) * 2) = ((X * 2 : Nat) : Int) := by simp [IntKind.wrap, IntKind.bits, IntKind.signed]; omega
  have e2 : IntKind.u64.wrap (d : Int) = (d : Int) := by simp [IntKind.wrap, IntKind.bits, IntKind.signed]; omega
  rw [e1, e2, u64_or_nat _ _ hX (by omega), nat_join 1 (X * 2) d (by omega) (by omega)]
theorem and_bit (y t : Nat) (hy : y < 256) : bits .and .u8 ((y : Int) / 2 ^ t) 1 = ((y / 2 ^ t % 2 : Nat) : Int) := by
  rw [show (y : Int) / 2 ^ t = ((y / 2 ^ t : Nat) : Int) by simp, show (1 : Int) = ((1 : Nat) : Int) from rfl, u8_and_nat _ _ (Nat.lt_of_le_of_lt (Nat.div_le_self _ _) hy) (by decide), Nat.and_one_is_mod]
theorem sub_wrap (r t : Nat) (h : r + t = 7) : IntKind.i64.wrap (7 - (r : Int)) = (t : Int) := by rw [IntKind.wrap_i64]; omega
theorem quo_wrap (q : Nat) (h : q < 1000000) : IntKind.i64.wrap (q : Int) = (q : Int) := by rw [IntKind.wrap_i64]; omega
section
variable {W w : World} {l : List HProp}
set_option maxRecDepth 100000 in
set_option maxHeartbeats 2000000 in
theorem cBrGet (hl : ∀ B ∈ l, Stable B) (p k n : Nat) (v : Value) (bs : List Nat) (hs : Sts W (brO p k v bs ++ l) w) (hb : ∀ x ∈ bs, x < 256) (hn : bs.length < 1000000) (h60 : n ≤ 60) (hk : k + n ≤ 8 * bs.length) :
    Calls Tryz.prog 127 #[.pointer (some ⟨p, 0, none⟩), .int .i64 (n : Int)] w fun e w' => e = .returned (.int .u64 ((Bitr.num bs k n : Nat) : Int)) ∧ Sts W (brO p (k + n) v bs ++ l) w' := by
  obtain ⟨a, c, rfl⟩ := own_slice hs.tail.rowOwn
  have b0 : w.cell? ⟨p, 0, none⟩ = some (.bool true) := (Sts.boxCell hs 0 _ rfl).1
  have b1 : w.cell? ⟨p, 1, none⟩ = some (.slice a bs.length c) := (Sts.boxCell hs 1 _ rfl).1
  have b2 : w.cell? ⟨p, 2, none⟩ = some (.int .i64 (k : Int)) := (Sts.boxCell hs 2 _ rfl).1
  have b3 : w.cell? ⟨p, 3, none⟩ = some (.bool false) := (Sts.boxCell hs 3 _ rfl).1
  have HOK := hid (cBrOk w p b0 b3)
  have HLF := hid (cBrLeft w p k bs.length a c b0 b3 b1 b2 hn (by omega))
  have d1 : decide ((n : Int) < 0) = false := decide_eq_false (by omega)
  have d2 : decide (64 < (n : Int)) = false := decide_eq_false (by omega)
  obtain ⟨z, hz⟩ : ∃ z, z = 8 * bs.length - k := ⟨_, rfl⟩
  rw [← hz] at HLF
  have d3 : decide (z < n) = false := decide_eq_false (by omega)
  have d4 : decide (64 < n) = false := decide_eq_false (by omega)
  have HS := hid hs
  have HL := hid hl
  have HB := hid hb
  have HN := hid hn
  have H6 := hid h60
  have HK := hid hk
  clear hs hl hn hk hz hb h60
  go_enter Tryz.func127, Tryz.ntmps127
  go_wp2_with (first
    | (go_at_call 202; refine HOK.out.mono ?_; rintro e w' ⟨rfl, rfl⟩)
    | (go_at_call 203; refine HLF.out.mono ?_; rintro e w' ⟨rfl, m, rfl⟩))
  have HS0 := hid (Sts.quiet (brO_stable p k _ bs HL.out) HS.out (below_drewN (Below.refl _ _) m))
  clear b0 b1 b2 b3 HOK HLF d1 d2 d3 d4 HS
  go_loopw [5, 25] (fun x i wr => ∃ j : Nat, j ≤ n ∧ x = .int .u64 ((Bitr.num bs k j : Nat) : Int) ∧ i = .int .i64 (j : Int) ∧ Sts W (brO p (k + j) (.slice a bs.length c) bs ++ l) wr) (fun _ i _ => n - (intOf i).toNat)
  case atStart => exact ⟨0, Nat.zero_le _, rfl, rfl, HS0.out⟩
  case round =>
    obtain ⟨j, hj, rfl, rfl, hs⟩ := hrel
    clear HS0
    by_cases hlt : j < n
    · have hbyte : (k + j) / 8 < bs.length := by have := HK.out; omega
      obtain ⟨g, gc, hv⟩ := own_pos hs.tail.rowOwn (by omega)
      injection hv with i1 i2 i3
      subst i1; subst i3; clear i2
      obtain ⟨X, hX⟩ : ∃ X, X = Bitr.num bs k j := ⟨_, rfl⟩
      obtain ⟨N, hN⟩ : ∃ N, N = k + j := ⟨_, rfl⟩
      obtain ⟨q, hq⟩ : ∃ q, q = N / 8 := ⟨_, rfl⟩
      obtain ⟨r, hr⟩ : ∃ r, r = N % 8 := ⟨_, rfl⟩
      obtain ⟨t, ht⟩ : ∃ t, t = 7 - N % 8 := ⟨_, rfl⟩
      obtain ⟨y, hy⟩ : ∃ y, y = bs.getD q 0 := ⟨_, rfl⟩
      have hql : q < bs.length := by rw [hq, hN]; exact hbyte
      have hyg : bs[q]? = some y := by rw [hy, List.getD_eq_getElem?_getD, List.getElem?_eq_getElem hql]; rfl
      have hy8 : y < 256 := HB.out y (List.mem_of_getElem? hyg)
      have hX2 : X * 2 < 18446744073709551616 := by
        have h1 := Bitr.num_lt bs k j
        have h2 : 2 ^ j ≤ 2 ^ 60 := Nat.pow_le_pow_right (by decide) (by have := H6.out; omega)
        rw [← hX] at h1
        omega
      rw [← hN] at hs
      rw [← hX]
      have c1 : wr.cell? ⟨p, 1, none⟩ = some (.slice (some ⟨g, 0, none⟩) bs.length c) := (Sts.boxCell hs 1 _ rfl).1
      have c2 : wr.cell? ⟨p, 2, none⟩ = some (.int .i64 (N : Int)) := (Sts.boxCell hs 2 _ rfl).1
      have f2 := (Sts.boxCell hs 2 _ rfl).2
      have c3 : wr.cell? ⟨g, q, none⟩ = some (.int .u8 (y : Int)) := Sts.rowCell hs.tail q hql _ (by simp [u8s, hyg])
      have hstep : Bitr.num bs k (j + 1) = X * 2 + y / 2 ^ t % 2 := by
        simp only [Bitr.num, Bitr.bit]
        rw [← hX, ← hN, ← hq, ← hy, ht]
      have HSTEP := hid hstep
      have g1 : (N : Int) / 8 = (q : Int) := by omega
      have g2 : (N : Int) % 8 = (r : Int) := by omega
      have hrt : r + t = 7 := by omega
      have hql2 : (q : Int) < (bs.length : Int) := by omega
      have ht8 : t < 8 := by omega
      have HNE : Hid (wrap64 ((N : Int) + 1) = ((k + (j + 1) : Nat) : Int)) := hid (by have := HK.out; have := HN.out; unfold wrap64; omega)
      have HJ := hid hlt
      have HJW : Hid (wrap64 ((j : Int) + 1) = (j : Int) + 1) := hid (by have := H6.out; unfold wrap64; omega)
      have hq6 : q < 1000000 := by have := HN.out; omega
      have HSS := hid hs
      have g5 := sub_wrap r t hrt
      have g4 := quo_wrap q hq6
      have G9 := hid (and_bit y t hy8)
      have hd2 : y / 2 ^ t % 2 < 2 := Nat.mod_lt _ (by decide)
      have G8 := hid (or_bit X (y / 2 ^ t % 2) hX2 hd2)
      have g3 : (N : Int).tmod 8 = (r : Int) := by rw [Int.tmod_eq_emod_of_nonneg (Int.natCast_nonneg _)]; exact g2
      clear hs hX hN hq hr ht hy hyg hy8 hX2 hstep hrt hbyte hd2 hq6
      go_wp2
      go_quiet (fail)
      rw [G9.out, G8.out, ← HSTEP.out]
      have q2 : (wr.drewN nq).cell? ⟨p, 2, none⟩ = some (.int .i64 (N : Int)) := c2
      have qf : (wr.drewN nq).frozen? ⟨p, 2, none⟩ = false := f2
      clear c1 c2 c3 f2 g1 g2 g3 g4 g5 hql hql2 ht8
      go_wp2
      rw [HJW.out]
      refine ⟨⟨j + 1, by have := HJ.out; omega, rfl, by go_num, ?_⟩, by have := HJ.out; simp [intOf]; omega⟩
      rw [HNE.out]
      exact Sts.store (stabC (rowP_stable _ _ _ _ _) HL.out) (Sts.quiet (brO_stable p N _ bs HL.out) HSS.out (below_drewN (Below.refl _ _) nq)) (j := 2) (.int .i64 ((k + (j + 1) : Nat) : Int))
    · obtain rfl : j = n := by omega
      have HS := hid hs
      clear hs
      go_wp2
      go_ret
      exact ⟨rfl, HS.out⟩
end
end Go.Proofs.YtnklmadmenkdoaaGreat
namespace Scr
/-- The marker's bytes. -/
def mark : List Nat := [26, 207, 252, 29]
end Scr
namespace Go.Proofs.YtnklmadmenkdoaaGreat
open Go.RowKit Go.Shelf Go.Proofs.Num
theorem Sts.litB {W w : World} {l : List HProp} (e : TypeId) (hl : ∀ B ∈ l, Stable B) (h : Sts W l w) (m : List Nat) (hm : m.length < 1000000) : Sts W (rowP e 1 (.slice (some ⟨w.heap.size, 0, none⟩) m.length m.length) m.length (u8s m) :: l) (w.alloc (.cells (u8s m).toArray e)) := by
  have hN := World.ownsRow_lit (base := w.heap.size) (e := e) (size := 1) w (u8s m).toArray m.length (Nat.le_refl _) (by unfold maxLen; omega) (by simp [u8s])
  have hNew : New w (w.alloc (.cells (u8s m).toArray e)) e (.slice (some ⟨w.heap.size, 0, none⟩) m.length m.length) (u8s m) := ⟨by rw [u8s_len]; simpa using hN, (Below.refl _ _).alloc (Nat.le_refl _) _⟩
  have h2 := Sts.new hl h hNew
  rw [u8s_len] at h2
  exact h2
set_option maxRecDepth 100000 in
theorem cMarker {W w : World} {l : List HProp} (hl : ∀ B ∈ l, Stable B) (hs : Sts W l w) : Calls Tryz.prog 170 #[] w fun e w' => ∃ g, e = .returned (.slice (some ⟨g, 0, none⟩) 4 4) ∧ Sts W (rowP 5 1 (.slice (some ⟨g, 0, none⟩) 4 4) Scr.mark.length (u8s Scr.mark) :: l) w' := by
  have H1 := hid (Sts.litB 5 hl hs Scr.mark (by decide))
  clear hs
  go_enter Tryz.func170, Tryz.ntmps170
  go_wp2_with fail
  go_ret
  exact ⟨_, rfl, H1.out⟩
set_option maxRecDepth 100000 in
theorem cWrap (w : World) (v : Value) (xs : List Nat) (hx : RdB w v xs) (hn : xs.length < 1000000) : Calls Tryz.prog 71 #[v] w fun e w' => ∃ r, e = .returned r ∧ New w w' 5 r (u8s (Scr.mark ++ Scr.mix xs xs.length)) := by
  have HM := hid (cMarker stab0 (Sts.nil w))
  have HA := hid (fun (y : World) (hy : Below w.heap.size w y) => cScrApply y v xs (hx.below hy) (by omega))
  have hlen : Scr.mark.length + (Scr.mix xs xs.length).length < 1000000000 := by rw [Scr.mix_len]; simp [Scr.mark]; omega
  clear hx
  go_enter Tryz.func71, Tryz.ntmps71
  go_wp2_with (first
    | (go_at_call 170; refine HM.out.mono ?_; rintro e w1 ⟨g, rfl, h1⟩; have H1 := hid h1; clear h1)
    | (go_at_call 123; refine (HA.out _ H1.out.below).mono ?_; rintro e w2 ⟨r, rfl, h2⟩; have HRD := hid h2.rd; have HNK := hid (NilOk.own h2.own); have H2 := hid ((Sts.new (stabC (rowP_stable _ _ _ _ _) stab0) H1.out h2).swap); clear h2)
    | (at_builtin; refine wpList_app8 rfl (.tmp 3) (.tmp 5) rfl H2.out (stabC (rowP_stable _ _ _ _ _) stab0) rfl rfl HRD.out HNK.out hlen ?_; intro v1 w3 h3; have H3 := hid h3; clear h3))
  go_ret
  refine ⟨_, rfl, New.of_sts H3.out.swap.tail (by rw [u8s_len, List.length_append])⟩
set_option maxRecDepth 100000 in
theorem cBClone {W w : World} {l : List HProp} (hl : ∀ B ∈ l, Stable B) (hs : Sts W l w) (ad : Addr) (c : Nat) (m : List Nat) (hR : Rd w (.slice (some ad) m.length c) (u8s m)) (hm : m.length < 1000000) :
    Calls Tryz.prog 122 #[.slice (some ad) m.length c] w fun e w' => ∃ a' c', e = .returned (.slice a' m.length c') ∧ Sts W (rowP 5 1 (.slice a' m.length c') m.length (u8s m) :: l) w' := by
  have hq := Lib.run_eql_slice_nil (P := Tryz.prog) w 35 5 (some ad) m.length c 0 0 Tryz.underlying35
  have H1 := hid (Sts.lit0 5 hl hs)
  have HR := hid (hR.below ((Below.refl _ _).alloc (Nat.le_refl _) (.cells #[] 5)))
  have HL := hid hl
  clear hs hR hl
  go_enter Tryz.func122, Tryz.ntmps122
  go_wp2_with (at_builtin; refine wpList_app8 (l := []) rfl (.tmp 5) (.tmp 6) rfl H1.out HL.out rfl rfl HR.out (by intro c hc; cases hc) (by simp; omega) ?_; intro v1 w1 h2; rw [List.nil_append, List.length_nil, Nat.zero_add] at h2; obtain ⟨ra, rc, rfl⟩ := own_slice h2.rowOwn; have H2 := hid h2; clear h2)
  go_ret
  exact ⟨_, _, rfl, H2.out⟩
end Go.Proofs.YtnklmadmenkdoaaGreat
namespace Go.Proofs.YtnklmadmenkdoaaGreat
open Go.RowKit Go.Shelf Go.Proofs.Num
set_option maxRecDepth 100000 in
theorem cBEqual (w : World) (v1 v2 : Value) (m : List Nat) (h1 : RdB w v1 m) (h2 : RdB w v2 m) : Calls Tryz.prog 101 #[v1, v2] w fun e w' => e = .returned (.bool true) ∧ w = w' := by
  have c1 := h1.str (P := Tryz.prog) 35 9 5 Tryz.underlying35 Tryz.underlying5 Tryz.underlying9
  have c2 := h2.str (P := Tryz.prog) 35 9 5 Tryz.underlying35 Tryz.underlying5 Tryz.underlying9
  clear h1 h2
  go_enter Tryz.func101, Tryz.ntmps101
  go_wp2_with fail
  go_ret
  exact ⟨by simp, rfl⟩
theorem sub_wrap0 (n : Nat) (h : n < 1000000) : wrap64 ((n : Int)) = (n : Int) := by unfold wrap64; omega
set_option maxRecDepth 100000 in
set_option maxHeartbeats 1000000 in
/-- A stream that begins with the marker. -/
theorem cBegin (w : World) (b off c N : Nat) (m : List Nat) (hN : N = 4 + m.length) (hR : RdB w (.slice (some ⟨b, off, none⟩) N c) (Scr.mark ++ m)) (hm0 : 1 ≤ m.length) (hm : m.length < 100000) :
    Calls Tryz.prog 121 #[.slice (some ⟨b, off, none⟩) N c] w fun e w' => e = .returned (.int .i64 0) ∧ Below w.heap.size w w' := by
  have hcap := (Rd.cap hR.1).2
  have HT : Hid (RdB w (.slice (some ⟨b, off, none⟩) 4 c) Scr.mark) := hid (RdB.take hR)
  have HM := hid (cMarker stab0 (Sts.nil w))
  have hc4 : (4 : Int) ≤ (c : Int) := by omega
  have hc4' : 4 ≤ c := by omega
  have d1 : (0 : Int) < (N : Int) := by omega
  have d1n : 0 < N := by omega
  have d2 : (4 : Int) < (N : Int) := by omega
  have hc0 : ¬ c = 0 := by omega
  have d3 := sub_wrap0 N (by omega)
  clear hR hcap hm hN hm0
  go_enter Tryz.func121, Tryz.ntmps121
  go_wp2_with (first
    | (go_at_call 170; refine HM.out.mono ?_; rintro e w1 ⟨g, rfl, h1⟩; have H1 := hid h1; clear h1))
  go_loopw [9] (fun i wr => i = .int .i64 0 ∧ wr = w1) (fun _ _ => 0)
  case atStart => exact ⟨rfl, rfl⟩
  case round =>
    obtain ⟨rfl, rfl⟩ := hrel
    have HE : Hid (∀ n, Calls Tryz.prog 101 #[.slice (some ⟨b, off, none⟩) 4 c, .slice (some ⟨g, 0, none⟩) 4 4] (wr.drewN n) fun e w' => e = .returned (.bool true) ∧ w' = wr.drewN n) := hid (fun n => by
      have hb := below_drewN (Below.refl wr.heap.size wr) n
      refine (cBEqual (wr.drewN n) _ _ Scr.mark (RdB.below HT.out (H1.out.below.trans (hb.mono H1.out.below.size))) (RdB.below (Sts.rdB8 H1.out (by decide)) hb)).mono ?_
      rintro e w' ⟨rfl, rfl⟩; exact ⟨rfl, rfl⟩)
    clear HT HM
    go_wp2
    go_quiet (first | (go_at_call 101; refine Calls.quiet_of_same (HE.out _)))
    have HF := hid (H1.out.below.trans ((below_drewN (Below.refl wr.heap.size wr) nq).mono H1.out.below.size))
    go_wp2
    go_ret
    exact ⟨rfl, HF.out⟩
set_option maxRecDepth 100000 in
/-- An empty stream. -/
theorem cBegin0 (w : World) (a : Option Addr) (c : Nat) : Calls Tryz.prog 121 #[.slice a 0 c] w fun e w' => e = .returned (.int .i64 0) ∧ Below w.heap.size w w' := by
  have HM := hid (cMarker stab0 (Sts.nil w))
  go_enter Tryz.func121, Tryz.ntmps121
  go_wp2_with (first
    | (go_at_call 170; refine HM.out.mono ?_; rintro e w1 ⟨g, rfl, h1⟩; have H1 := hid h1; clear h1))
  go_loopw [9] (fun i wr => i = .int .i64 0 ∧ wr = w1) (fun _ _ => 0)
  case atStart => exact ⟨rfl, rfl⟩
  case round =>
    obtain ⟨rfl, rfl⟩ := hrel
    go_wp2
    go_ret
    exact ⟨rfl, H1.out.below⟩
end Go.Proofs.YtnklmadmenkdoaaGreat
namespace Ver
/-- Whether stage b may follow stage a. -/
def fol (a b : Int) : Bool := if a = 0 then decide (b = 1) || decide (b = 4) else if a = 1 then decide (b = 2) else if a = 2 then decide (b = 3) || decide (b = 5) else false
/-- Whether a report can be encoded. -/
def ok (s n t c : Int) : Bool := decide (0 ≤ s) && (decide (s ≤ 15) && (decide (0 ≤ n) && (decide (n ≤ 65535) && (decide (1 ≤ t) && (decide (t ≤ 5) && (decide (0 ≤ c) && decide (c ≤ 17)))))))
theorem ok_iff (s n t c : Int) : ok s n t c = true ↔ (0 ≤ s ∧ s ≤ 15) ∧ (0 ≤ n ∧ n ≤ 65535) ∧ (1 ≤ t ∧ t ≤ 5) ∧ (0 ≤ c ∧ c ≤ 17) := by
  simp only [ok, Bool.and_eq_true, decide_eq_true_eq]; omega
end Ver
namespace Go.Proofs.YtnklmadmenkdoaaGreat
open Go.RowKit Go.Shelf Go.Proofs.Num
set_option maxRecDepth 100000 in
theorem cFollows (w : World) (a b : Int) : Calls Tryz.prog 19 #[.int .i64 a, .int .i64 b] w fun e w' => e = .returned (.bool (Ver.fol a b)) ∧ w = w' := by
  have hb : ∀ k : Int, (b == k) = decide (b = k) := fun k => by by_cases h : b = k <;> simp [h]
  have HB := hid hb
  have HF : Hid (∀ v, v = Ver.fol a b → Ver.fol a b = v) := hid (fun _ h => h.symm)
  by_cases h0 : a = 0
  · subst h0
    by_cases h1 : b = 1
    · subst h1
      clear hb HB
      go_enter Tryz.func19, Tryz.ntmps19
      go_wp2
      go_ret
      exact ⟨by simp [Ver.fol], rfl⟩
    · have e1 : (b == (1 : Int)) = false := by simp [h1]
      clear hb HB h1
      go_enter Tryz.func19, Tryz.ntmps19
      go_wp2
      all_goals (go_ret; refine ⟨?_, rfl⟩; simp only [beq_eq_false_iff_ne, ne_eq] at e1; simp [Ver.fol, e1]; try (by_cases h4 : b = 4 <;> simp [h4]))
  · by_cases h1 : a = 1
    · subst h1
      clear hb HB
      go_enter Tryz.func19, Tryz.ntmps19
      go_wp2
      all_goals (go_ret; refine ⟨?_, rfl⟩; simp [Ver.fol]; try (by_cases h4 : b = 2 <;> simp [h4]))
    · by_cases h2 : a = 2
      · subst h2
        by_cases h3 : b = 3
        · subst h3
          clear hb HB
          go_enter Tryz.func19, Tryz.ntmps19
          go_wp2
          go_ret
          exact ⟨by simp [Ver.fol], rfl⟩
        · have e1 : (b == (3 : Int)) = false := by simp [h3]
          clear hb HB h3
          go_enter Tryz.func19, Tryz.ntmps19
          go_wp2
          all_goals (go_ret; refine ⟨?_, rfl⟩; simp only [beq_eq_false_iff_ne, ne_eq] at e1; simp [Ver.fol, e1]; try (by_cases h4 : b = 5 <;> simp [h4]))
      · have e0 : (a == (0 : Int)) = false := by simp [h0]
        have e1 : (a == (1 : Int)) = false := by simp [h1]
        have e2 : (a == (2 : Int)) = false := by simp [h2]
        have hv : Ver.fol a b = false := by simp [Ver.fol, h0, h1, h2]
        clear hb HB h0 h1 h2
        rw [hv]
        go_enter Tryz.func19, Tryz.ntmps19
        go_wp2
        go_ret
        exact ⟨rfl, rfl⟩
/-- A report as a value. -/
def ackV (s n t c : Int) : Array Value := #[.int .i64 s, .int .i64 n, .int .i64 t, .int .i64 c]
set_option maxRecDepth 100000 in
theorem cVerValid (w : World) (s n t c : Int) : Calls Tryz.prog 67 #[.agg (ackV s n t c)] w fun e w' => e = .returned (.bool (Ver.ok s n t c)) ∧ Below w.heap.size w w' := by
  have HB : Hid (Below w.heap.size w (w.alloc (.cells #[.int .i64 s, .int .i64 n, .int .i64 t, .int .i64 c] 61))) := hid ((Below.refl _ _).alloc (Nat.le_refl _) _)
  have HH : True := trivial
  unfold ackV
  by_cases h0 : 0 ≤ s
  case neg =>
    have hv : Ver.ok s n t c = false := by rw [Bool.eq_false_iff]; intro h; rw [Ver.ok_iff] at h; omega
    have d0 : decide (0 ≤ s) = false := decide_eq_false h0
    clear h0
    clear HH
    rw [hv]
    go_enter Tryz.func67, Tryz.ntmps67
    go_wp2
    go_ret
    exact ⟨rfl, HB.out⟩
  by_cases h1 : s ≤ 15
  case neg =>
    have hv : Ver.ok s n t c = false := by rw [Bool.eq_false_iff]; intro h; rw [Ver.ok_iff] at h; omega
    have d1 : decide (s ≤ 15) = false := decide_eq_false h1
    clear h1
    clear HH
    rw [hv]
    go_enter Tryz.func67, Tryz.ntmps67
    go_wp2
    go_ret
    exact ⟨rfl, HB.out⟩
  by_cases h2 : 0 ≤ n
  case neg =>
    have hv : Ver.ok s n t c = false := by rw [Bool.eq_false_iff]; intro h; rw [Ver.ok_iff] at h; omega
    have d2 : decide (0 ≤ n) = false := decide_eq_false h2
    clear h2
    clear HH
    rw [hv]
    go_enter Tryz.func67, Tryz.ntmps67
    go_wp2
    go_ret
    exact ⟨rfl, HB.out⟩
  by_cases h3 : n ≤ 65535
  case neg =>
    have hv : Ver.ok s n t c = false := by rw [Bool.eq_false_iff]; intro h; rw [Ver.ok_iff] at h; omega
    have d3 : decide (n ≤ 65535) = false := decide_eq_false h3
    clear h3
    clear HH
    rw [hv]
    go_enter Tryz.func67, Tryz.ntmps67
    go_wp2
    go_ret
    exact ⟨rfl, HB.out⟩
  by_cases h4 : 1 ≤ t
  case neg =>
    have hv : Ver.ok s n t c = false := by rw [Bool.eq_false_iff]; intro h; rw [Ver.ok_iff] at h; omega
    have d4 : decide (1 ≤ t) = false := decide_eq_false h4
    clear h4
    clear HH
    rw [hv]
    go_enter Tryz.func67, Tryz.ntmps67
    go_wp2
    go_ret
    exact ⟨rfl, HB.out⟩
  by_cases h5 : t ≤ 5
  case neg =>
    have hv : Ver.ok s n t c = false := by rw [Bool.eq_false_iff]; intro h; rw [Ver.ok_iff] at h; omega
    have d5 : decide (t ≤ 5) = false := decide_eq_false h5
    clear h5
    clear HH
    rw [hv]
    go_enter Tryz.func67, Tryz.ntmps67
    go_wp2
    go_ret
    exact ⟨rfl, HB.out⟩
  by_cases h6 : 0 ≤ c
  case neg =>
    have hv : Ver.ok s n t c = false := by rw [Bool.eq_false_iff]; intro h; rw [Ver.ok_iff] at h; omega
    have d6 : decide (0 ≤ c) = false := decide_eq_false h6
    clear h6
    clear HH
    rw [hv]
    go_enter Tryz.func67, Tryz.ntmps67
    go_wp2
    go_ret
    exact ⟨rfl, HB.out⟩
  by_cases h7 : c ≤ 17
  case neg =>
    have hv : Ver.ok s n t c = false := by rw [Bool.eq_false_iff]; intro h; rw [Ver.ok_iff] at h; omega
    have d7 : decide (c ≤ 17) = false := decide_eq_false h7
    clear h7
    clear HH
    rw [hv]
    go_enter Tryz.func67, Tryz.ntmps67
    go_wp2
    go_ret
    exact ⟨rfl, HB.out⟩
  have hv : Ver.ok s n t c = true := (Ver.ok_iff s n t c).2 (by omega)
  clear HH
  rw [hv]
  go_enter Tryz.func67, Tryz.ntmps67
  go_wp2
  go_ret
  exact ⟨rfl, HB.out⟩
end Go.Proofs.YtnklmadmenkdoaaGreat
