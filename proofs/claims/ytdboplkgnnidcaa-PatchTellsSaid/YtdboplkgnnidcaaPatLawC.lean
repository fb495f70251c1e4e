/- The law PatchTells: uncorrectable words, nil pointers; its walk. -/
import Derived.Test.YtdboplkgnnidcaaPatAlive
set_option linter.unusedVariables false
namespace Ecc
/-- Words that are zero but for one place. -/
def Spoilt (ws : List Nat) (x : Nat) : Prop := (∀ i, i ≠ x → ws.getD i 0 = 0) ∧ rep (ws.getD x 0) = (ws.getD x 0, 2) ∧ x < ws.length
theorem Spoilt.good {ws : List Nat} {x : Nat} (h : Spoilt ws x) (c i : Nat) (hi : i < ws.length) (hne : i ≠ x) : mread ws c i = (0, 0, ws, c) := by
  have r0 : rep 0 = (0, 0) := by decide
  have d0 : dat 0 = 0 := by decide
  have ho : out ws (i : Int) = false := by simp [out]; omega
  unfold mread; rw [ho]
  simp only [Int.toNat_natCast, Bool.false_eq_true, if_false]
  unfold rpr; rw [h.1 i hne, r0]; simp [d0]
theorem Spoilt.bad {ws : List Nat} {x : Nat} (h : Spoilt ws x) (c : Nat) : mread ws c x = (0, 13, ws, c) := by
  have ho : out ws (x : Int) = false := by have := h.2.2; simp [out]; omega
  unfold mread; rw [ho]
  simp only [Int.toNat_natCast, Bool.false_eq_true, if_false]
  unfold rpr; rw [h.2.1]; simp
end Ecc
namespace Go.Proofs.Ytdboplkgnnidcaa
open Go.RowKit Go.Proofs.Num
theorem below_step2 {A w w' : World} (h : Below A.heap.size A w) (k : Below w.heap.size w w') : Below A.heap.size A w' := h.trans (k.mono h.size)
theorem cSizeNil (w : World) : Calls Try.prog 48 #[.pointer none] w fun e w' => e = .returned (.int .i64 (0 : Nat)) ∧ w = w' := by
  go_enter Try.func48, Try.ntmps48
  go_wp2_with (go_at_call 62; refine (c46n _).mono ?_; rintro e w' ⟨rfl, rfl⟩)
  go_ret
  exact ⟨rfl, rfl⟩
theorem cCheckNil (w : World) (a n : Int) (ha : -9223372036854775808 ≤ a ∧ a < 9223372036854775808) : Calls Try.prog 43 #[.pointer none, .int .i64 a, .int .i64 n] w fun e w' => e = .returned (.int .i64 2) ∧ w = w' :=
  (cCheck 0 (by decide) a n ha (.pointer none) w (fun w' => w = w') (cSizeNil w)).mono fun e w' h => ⟨by rw [h.1]; rfl, h.2⟩
theorem cLoadNil (w : World) (v : Value) (l : List Nat) (h : RdW w v l) (z : Int) : Calls Try.prog 21 #[.pointer none, .int .i64 0, v, .int .u16 z] w fun e w' => e = .returned (.int .i64 2) ∧ w = w' := by
  obtain ⟨a, cap, rfl, _⟩ := h.open
  clear h
  go_enter Try.func21, Try.ntmps21
  go_wp2_with fail
  refine (cCheckNil _ _ _ (by decide)).mono ?_; rintro e w1 ⟨rfl, rfl⟩
  go_wp2_with fail
  go_ret
  exact ⟨rfl, rfl⟩
theorem cDumpNil (w : World) : Calls Try.prog 24 #[.pointer none, .int .i64 0, .int .i64 1] w fun e w' => e = .returned (.tuple #[.slice none 0 0, .int .i64 2]) ∧ w = w' := by
  go_enter Try.func24, Try.ntmps24
  go_wp2_with fail
  refine (cCheckNil _ _ _ (by decide)).mono ?_; rintro e w1 ⟨rfl, rfl⟩
  go_wp2_with fail
  go_ret2
  exact ⟨rfl, rfl⟩
theorem cChkNil (w : World) : Calls Try.prog 25 #[.pointer none, .int .i64 0, .int .i64 1] w fun e w' => e = .returned (.tuple #[.int .u16 0, .int .i64 2]) ∧ w = w' := by
  go_enter Try.func25, Try.ntmps25
  go_wp2_with fail
  refine (cDumpNil _).mono ?_; rintro e w1 ⟨rfl, rfl⟩
  go_wp2_with fail
  go_ret2
  exact ⟨rfl, rfl⟩
section
variable {W w : World} {p c x : Nat} {ws : List Nat} {l : List HProp}
theorem sfew (h : Sts W (memP p ws c :: l) w) : ws.length ≤ 65536 := by obtain ⟨F, g, cap, h, _⟩ := h.head; exact h.few
set_option maxRecDepth 100000 in
theorem wDumpBad (hc : c < 100000000000) (hl : ∀ B ∈ l, Stable B) (hs : Sts W (memP p ws c :: l) w) (hx : Ecc.Spoilt ws x) (a n : Nat) (h1 : a ≤ x) (h2 : x < a + n) (h3 : a + n ≤ ws.length) :
    Calls Try.prog 24 #[.pointer (some ⟨p, 0, none⟩), .int .i64 a, .int .i64 n] w fun e w' => e = .returned (.tuple #[.slice none 0 0, .int .i64 13]) ∧ Sts W (memP p ws c :: l) w' := by
  have hfew := sfew hs
  have hk0 : Pat.chkE ws.length a n = 0 := by unfold Pat.chkE; rw [if_neg (by omega), if_neg (by omega)]
  have HC := hid (cCheck ws.length hfew a n (by omega) (.pointer (some ⟨p, 0, none⟩)) w (fun w' => Sts W (memP p ws c :: l) w') (Sts.callV hl hs (s28 p c ws)))
  rw [hk0] at HC
  clear hk0 hs
  obtain ⟨i0, hi, hz0, hz1, hz2⟩ := info_parts info32
  have HG := hid (fun i hi hne => hx.good c i hi hne)
  have HBd := hid (hx.bad c)
  clear hx
  go_enter Try.func24, Try.ntmps24
  go_wp2_with fail
  refine HC.out.mono ?_; rintro e w1 ⟨rfl, h1⟩
  have H1 := hid (h1.rowNil 48)
  clear h1
  go_wp2_with fail
  go_loopw [9, 21] (fun r i wr => ∃ k : Nat, a + k ≤ x ∧ i = .int .i64 k ∧ ∃ ys, Sts W (rowP 48 1 r k (u32s ys) :: memP p ws c :: l) wr) (fun _ i _ => n - (intOf i).toNat)
  case atStart => exact ⟨0, by omega, rfl, [], H1.out⟩
  case round =>
    obtain ⟨k, hk, rfl, ys, hs⟩ := hrel
    have hrs : Stable (rowP 48 1 u9 k (u32s ys)) := rowP_stable _ _ _ _ _
    have e4 : (a : Int) + k = ((a + k : Nat) : Int) := by omega
    have KR0 := Sts.callV (stabC hrs hl) hs.swap (s32 p c ws (a + k : Nat) hc)
    have hlw := hid (stabC (memP_stable p ws c) hl)
    have hst := hid (stabC hrs hlw.out)
    by_cases hlt : a + k < x
    · rw [HG.out (a + k) (by omega) (by omega), ← e4] at KR0
      have KR := hid KR0
      clear e4 hs hrs KR0 H1
      go_wp2_with fail
      refine KR.out.mono ?_; rintro e w3 ⟨rfl, h3⟩
      have H3 := hid (h3.swap)
      have H4 := hid (h3.swap.box hst.out (.cells #[.int .u32 0] 48))
      have ho := hid H4.out.rowOwn
      clear h3
      go_wp2_with (at_builtin; refine wpList_append_lies _ rfl _ _ _ rfl 0 48 i0 (.int .u32 0) 1 4 Try.underlying22 hi hz0 hz1 hz2 rfl (by omega) u9 k (u32s ys) rfl ho.out ⟨w3.heap.size, 0, none⟩ 1 1 (u32s [0]) rfl (by simp [u32s]) (World.news_of_block (cs := #[.int .u32 0]) (t := 48) (fr := (0, 0)) (heap_new _ _ rfl)) (u32s_one _) (by omega) (by unfold maxLen; omega) (by omega) (by simp) (w3.heap.size + 1) (by simp) ?_; intro g cap w4 hown hgrow hat hlt2)
      have H5 := hid (H4.out.grown hlw.out hgrow hown (by intro q hq; simp only [Value.ownBlock, Option.some.injEq] at hq; subst hq; rcases hat with h | h; exact Or.inl h; exact Or.inr (by simp; omega)))
      clear hown hgrow hat hlt2
      go_roundw
      case rel => exact ⟨k + 1, by omega, by go_num, ys ++ [0], by rw [u32s_app]; exact H5.out⟩
      case measure => simp [intOf]; omega
    · have hkx : a + k = x := by omega
      rw [hkx, HBd.out, ← hkx, ← e4] at KR0
      have KR := hid KR0
      clear e4 hs hrs KR0 H1
      go_wp2_with fail
      refine KR.out.mono ?_; rintro e w3 ⟨rfl, h3⟩
      have H3 := hid h3.swap.tail
      clear h3
      go_wp2_with fail
      go_ret2
      exact ⟨rfl, H3.out⟩
theorem wChkBad (hc : c < 100000000000) (hl : ∀ B ∈ l, Stable B) (hs : Sts W (memP p ws c :: l) w) (hx : Ecc.Spoilt ws x) :
    Calls Try.prog 25 #[.pointer (some ⟨p, 0, none⟩), .int .i64 x, .int .i64 1] w fun e w' => e = .returned (.tuple #[.int .u16 0, .int .i64 13]) ∧ Sts W (memP p ws c :: l) w' := by
  have hxl := hx.2.2
  have KD := hid (wDumpBad hc hl hs hx x 1 (by omega) (by omega) (by omega))
  clear hs hx
  go_enter Try.func25, Try.ntmps25
  go_wp2_with fail
  refine KD.out.mono ?_; rintro e w1 ⟨rfl, h1⟩
  go_wp2_with fail
  go_ret2
  exact ⟨rfl, h1⟩
end
end Go.Proofs.Ytdboplkgnnidcaa
