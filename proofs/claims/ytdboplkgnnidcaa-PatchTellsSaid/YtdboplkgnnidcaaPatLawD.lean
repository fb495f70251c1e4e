/- The law PatchTells: its walk. -/
import Derived.Test.YtdboplkgnnidcaaPatLawC
set_option linter.unusedVariables false
namespace Ecc
def strike (up : List Bool) (a : Nat) : Nat → List Bool
  | 0 => up
  | k + 1 => (strike up a k).set (a + k) false
theorem strike_len (up : List Bool) (a k : Nat) : (strike up a k).length = up.length := by
  induction k with
  | zero => rfl
  | succ k ih => simp [strike, ih]
theorem strike_get (up : List Bool) (a k i : Nat) (h1 : a ≤ i) (h2 : i < a + k) : (strike up a k).getD i false = false := by
  induction k with
  | zero => omega
  | succ k ih =>
    simp only [strike]
    by_cases e : a + k = i
    · subst e
      by_cases hl : a + k < (strike up a k).length
      · exact getD_set_same _ _ _ _ hl
      · rw [List.set_eq_of_length_le (by omega)]; simp [List.getD, List.getElem?_eq_none (show (strike up a k).length ≤ a + k by omega)]
    · rw [getD_set_ne _ _ _ _ _ e]; exact ih (by omega)
theorem strike_all (up : List Bool) (n : Nat) (h : up.length = n) : strike up 0 n = List.replicate n false :=
  all_false _ n (by rw [strike_len, h]) (fun i hi => strike_get up 0 n i (by omega) (by omega))
theorem Held.whole {ws : List Nat} {n : Nat} (H : Held ws (List.replicate n 0) (List.replicate n false) n) : ws = List.replicate n 0 := by
  refine List.ext_getElem (by simp [H.l1]) fun i h1 h2 => ?_
  have hi : i < n := by have := H.l1; omega
  have e0 : enc 0 = 0 := by decide
  have := H.cell i hi
  have e1 : (List.replicate n 0).getD i 0 = 0 := by simp [List.getD, hi]
  have e2 : (List.replicate n false).getD i false = false := by simp [List.getD, hi]
  rw [e1, e2] at this
  obtain ⟨_, ⟨_, h⟩ | ⟨h, _⟩⟩ := this
  · rw [e0] at h
    have e3 : ws.getD i 0 = ws[i] := by simp [List.getD, h1]
    rw [e3] at h
    simp [h]
  · cases h
theorem flp_nat (w b : Nat) (h : b < 39) : flp w (b : Int) = w ^^^ 2 ^ b := by unfold flp; rw [if_neg (by omega)]; simp
theorem spoil (n x b o : Nat) (hx : x < n) (hb : b < 39) (ho : o < 39) (h : b ≠ o) :
    mflip (List.replicate n 0) x b = (0, (List.replicate n 0).set x (2 ^ b)) ∧ mflip ((List.replicate n 0).set x (2 ^ b)) x o = (0, (List.replicate n 0).set x (2 ^ b ^^^ 2 ^ o)) ∧ Spoilt ((List.replicate n 0).set x (2 ^ b ^^^ 2 ^ o)) x := by
  have o1 : out (List.replicate n 0) (x : Int) = false := by simp [out]; omega
  have o2 : out ((List.replicate n 0).set x (2 ^ b)) (x : Int) = false := by simp [out]; omega
  refine ⟨?_, ?_, ?_⟩
  · unfold mflip; rw [o1, if_neg (by simp; omega)]
    simp [List.getD, hx, flp_nat _ _ hb]
  · unfold mflip; rw [o2, if_neg (by simp; omega)]
    simp [List.getD, hx, flp_nat _ _ ho]
  · refine ⟨fun i hi => ?_, ?_, by simpa using hx⟩
    · rw [getD_set_ne _ _ _ _ _ (Ne.symm hi)]
      by_cases hl : i < n
      · simp [List.getD, hl]
      · simp [List.getD, List.getElem?_eq_none (show (List.replicate n 0).length ≤ i by simpa using Nat.le_of_not_lt hl)]
    · rw [getD_set_same _ _ _ _ (by simpa using hx)]
      have e0 : enc 0 = 0 := by decide
      have := rep_two 0 b o (by decide) hb ho h
      rw [e0, Nat.zero_xor] at this
      exact this
end Ecc
namespace Go.Proofs.Ytdboplkgnnidcaa
open Go.RowKit Go.Proofs.Num
section
variable {W w : World} {p K : Nat} {want : List Nat} {l : List HProp}
set_option maxRecDepth 100000 in
theorem hDump (hK : K < 100000000000) (hl : ∀ B ∈ l, Stable B) (up : List Bool) (hs : Sts W (heldP p K want up :: l) w) (a n : Nat) (h1 : 1 ≤ n) (h2 : a + n ≤ want.length) :
    Calls Try.prog 24 #[.pointer (some ⟨p, 0, none⟩), .int .i64 a, .int .i64 n] w fun e w' => ∃ r, e = .returned (.tuple #[r, .int .i64 0]) ∧
      Sts W (rowP 48 1 r n (u32s (Pat.cut want a n)) :: heldP p K want (Ecc.strike up a n) :: l) w' := by
  have hfew : want.length ≤ 65536 := Sts.fewW (hs.weaken (fun F h => h.word))
  have hk0 : Pat.chkE want.length a n = 0 := by unfold Pat.chkE; rw [if_neg (by omega), if_neg (by omega)]
  have hsz : HSpecV Try.prog 48 #[.pointer (some ⟨p, 0, none⟩)] (heldP p K want up) (.int .i64 (want.length : Nat)) (heldP p K want up) := by
    rintro w F ⟨ws, c, g1, g2, g3⟩
    refine (s28 p c ws w F g3).mono ?_
    rintro e w' ⟨a, F', he, hm, r⟩
    exact ⟨a, F', by rw [he, g1.l1], ⟨ws, c, g1, g2, hm⟩, r⟩
  have HC := hid (cCheck want.length hfew a n (by omega) (.pointer (some ⟨p, 0, none⟩)) w (fun w' => Sts W (heldP p K want up :: l) w') (Sts.callV hl hs hsz))
  rw [hk0] at HC
  clear hk0 hs hsz
  obtain ⟨i0, hi, hz0, hz1, hz2⟩ := info_parts info32
  go_enter Try.func24, Try.ntmps24
  go_wp2_with fail
  refine HC.out.mono ?_; rintro e w1 ⟨rfl, h1⟩
  have H1 := hid (h1.rowNil 48)
  clear h1
  go_wp2_with fail
  go_loopw [9, 21] (fun r i wr => ∃ k : Nat, k ≤ n ∧ i = .int .i64 k ∧ Sts W (rowP 48 1 r k (u32s (Pat.cut want a k)) :: heldP p K want (Ecc.strike up a k) :: l) wr) (fun _ i _ => n - (intOf i).toNat)
  case atStart => exact ⟨0, by omega, rfl, by rw [show Pat.cut want a 0 = [] by simp [Pat.cut]]; exact H1.out⟩
  case round =>
    obtain ⟨k, hk, rfl, hs⟩ := hrel
    by_cases hlt : k < n
    · have hrs : Stable (rowP 48 1 u9 k (u32s (Pat.cut want a k))) := rowP_stable _ _ _ _ _
      have KR := hid (Sts.callV (stabC hrs hl) hs.swap (hRead hK (Ecc.strike up a k) (a + k) (by omega)))
      have HU := hid (Pat.cut_succ want a k (by omega))
      have HST : Hid (Ecc.strike up a (k + 1) = (Ecc.strike up a k).set (a + k) false) := rfl
      have e4 : (a : Int) + k = ((a + k : Nat) : Int) := by omega
      have hlw := hid (stabC (heldP_stable p K want ((Ecc.strike up a k).set (a + k) false)) hl)
      have hst := hid (stabC hrs hlw.out)
      rw [← e4] at KR
      clear e4 hs hrs
      generalize want.getD (a + k) 0 = x at *
      generalize Pat.cut want a k = ys at *
      generalize Ecc.strike up a k = uk at *
      go_wp2_with fail
      refine KR.out.mono ?_; rintro e w3 ⟨rfl, h3⟩
      have H4 := hid (h3.swap.box hst.out (.cells #[.int .u32 (x : Nat)] 48))
      have ho := hid H4.out.rowOwn
      clear h3
      go_wp2_with (at_builtin; refine wpList_append_lies _ rfl _ _ _ rfl 0 48 i0 (.int .u32 0) 1 4 Try.underlying22 hi hz0 hz1 hz2 rfl (by omega) u9 k (u32s ys) rfl ho.out ⟨w3.heap.size, 0, none⟩ 1 1 (u32s [x]) rfl (by simp [u32s]) (World.news_of_block (cs := #[.int .u32 (x : Nat)]) (t := 48) (fr := (0, 0)) (heap_new _ _ rfl)) (u32s_one _) (by omega) (by unfold maxLen; omega) (by omega) (by simp) (w3.heap.size + 1) (by simp) ?_; intro g cap w4 hown hgrow hat hlt2)
      have H5 := hid (H4.out.grown hlw.out hgrow hown (by intro q hq; simp only [Value.ownBlock, Option.some.injEq] at hq; subst hq; rcases hat with h | h; exact Or.inl h; exact Or.inr (by simp; omega)))
      clear hown hgrow hat hlt2
      go_roundw
      case rel => exact ⟨k + 1, by omega, by go_num, by rw [HU.out, u32s_app, HST.out]; exact H5.out⟩
      case measure => simp [intOf]; omega
    · obtain rfl : k = n := by omega
      have HF := hid hs
      clear hs
      go_wp2_with fail
      go_ret2
      exact ⟨_, rfl, HF.out⟩
end
set_option maxRecDepth 100000 in
theorem tells_small (w : World) (a b o : Int) (h : a < 0 ∨ 19 < a ∨ b < 0 ∨ 38 < b ∨ o < 0 ∨ 38 < o ∨ b = o) :
    Calls Try.prog 6 #[.int .i64 a, .int .i64 b, .int .i64 o] w fun e w' => e = .returned (.bool true) ∧ Below w.heap.size w w' := by
  have H := hid h
  clear h
  by_cases h1 : a < 0
  · go_enter Try.func6, Try.ntmps6
    go_wp2_with fail
    refine (cAlive w).mono ?_; rintro e w1 ⟨rfl, h1⟩
    go_wp2_with fail
    go_ret
    exact ⟨rfl, h1⟩
  by_cases h2 : 19 < a
  · go_enter Try.func6, Try.ntmps6
    go_wp2_with fail
    refine (cAlive w).mono ?_; rintro e w1 ⟨rfl, h1⟩
    go_wp2_with fail
    go_ret
    exact ⟨rfl, h1⟩
  by_cases h3 : b < 0
  · go_enter Try.func6, Try.ntmps6
    go_wp2_with fail
    refine (cAlive w).mono ?_; rintro e w1 ⟨rfl, h1⟩
    go_wp2_with fail
    go_ret
    exact ⟨rfl, h1⟩
  by_cases h4 : 38 < b
  · go_enter Try.func6, Try.ntmps6
    go_wp2_with fail
    refine (cAlive w).mono ?_; rintro e w1 ⟨rfl, h1⟩
    go_wp2_with fail
    go_ret
    exact ⟨rfl, h1⟩
  by_cases h5 : o < 0
  · go_enter Try.func6, Try.ntmps6
    go_wp2_with fail
    refine (cAlive w).mono ?_; rintro e w1 ⟨rfl, h1⟩
    go_wp2_with fail
    go_ret
    exact ⟨rfl, h1⟩
  by_cases h6 : 38 < o
  · go_enter Try.func6, Try.ntmps6
    go_wp2_with fail
    refine (cAlive w).mono ?_; rintro e w1 ⟨rfl, h1⟩
    go_wp2_with fail
    go_ret
    exact ⟨rfl, h1⟩
  obtain rfl : b = o := by have := H.out; omega
  have h7 : (b == b) = true := by simp
  go_enter Try.func6, Try.ntmps6
  go_wp2_with fail
  refine (cAlive w).mono ?_; rintro e w1 ⟨rfl, h1⟩
  go_wp2_with fail
  go_ret
  exact ⟨rfl, h1⟩
def twenty : Array Value := ⟨List.replicate 20 (Value.int .u32 0)⟩
theorem make20 (W : World) : (Instr.makeSlice 22 (.int .i64 20) (.int .i64 20)).run Try.prog W = .ok (.slice (some ⟨W.heap.size, 0, none⟩) 20 20) (W.alloc (.cells twenty 48)) := by kernel_rfl
theorem rep_false (n x : Nat) : (List.replicate n false).getD x false = false := by
  rw [List.getD_eq_getElem?_getD, List.getElem?_replicate]; split <;> rfl
theorem u32_rep (n : Nat) : (madeCells (Value.int IntKind.u32 0).cells (n * 1)).toList = u32s (List.replicate n 0) := by
  show (madeCells #[Value.int IntKind.u32 0] (n * 1)).toList = _
  rw [toList_madeCells_one]; simp [u32s]
theorem held_mem {W w : World} {p K n : Nat} {l : List HProp} (h : Sts W (heldP p K (List.replicate n 0) (List.replicate n false) :: l) w) : ∃ c, c ≤ K ∧ Sts W (memP p (List.replicate n 0) c :: l) w := by
  obtain ⟨F, ⟨F1, F2, ⟨ws, c, g1, g2, g3⟩, r⟩, hb, hn⟩ := h
  rw [List.length_replicate] at g1
  have := g1.whole
  subst this
  exact ⟨c, by omega, F, ⟨F1, F2, g3, r⟩, hb, hn⟩
set_option maxHeartbeats 1000000 in
set_option maxRecDepth 100000 in
theorem tells_main (w : World) (x b o : Nat) (hx : x < 20) (hb : b < 39) (ho : o < 39) (hbo : b ≠ o) :
    Calls Try.prog 6 #[.int .i64 x, .int .i64 b, .int .i64 o] w fun e w' => e = .returned (.bool true) ∧ Below w.heap.size w w' := by
  obtain ⟨i0, hi, hz0, hz1, hz2⟩ := info_parts info32
  have hne : ((b : Int) == o) = false := by simp; omega
  have KN := hid (Sts.call stab0 (Sts.withEmp (Sts.nil w)) (wNew 20 (by decide)))
  have KF := hid (fun p w' (hs : Sts w [heldP p 0 (List.replicate 20 0) (List.replicate 20 false)] w') => Sts.callV stab0 hs (hFlip _ x b (by simpa using hx) hb (rep_false 20 x)))
  have KD := hid (fun p w' (hs : Sts w [heldP p 1 (List.replicate 20 0) ((List.replicate 20 false).set x true)] w') => hDump (by decide) stab0 _ hs 0 20 (by decide) (by decide))
  rw [Ecc.strike_all _ _ (by simp)] at KD
  have hcut : Pat.cut (List.replicate 20 0) 0 20 = List.replicate 20 0 := by decide
  rw [hcut] at KD
  obtain ⟨s1, s2, s3⟩ := Ecc.spoil 20 x b o hx hb ho hbo
  have KF1 := hid (fun p c w' (hs : Sts w [memP p (List.replicate 20 0) c] w') => Sts.callV stab0 hs (s34 p c (List.replicate 20 0) x b))
  have KF2 := hid (fun p c w' (hs : Sts w [memP p ((List.replicate 20 0).set x (2 ^ b)) c] w') => Sts.callV stab0 hs (s34 p c _ x o))
  rw [s1] at KF1
  rw [s2] at KF2
  have hlen : ((List.replicate 20 0).set x (2 ^ b ^^^ 2 ^ o)).length = 20 := by simp
  generalize (List.replicate 20 0).set x (2 ^ b ^^^ 2 ^ o) = X at *
  have KD2 := hid (fun p c w' (hc : c < 100000000000) (hs : Sts w [memP p X c] w') => wDumpBad hc stab0 hs s3 0 20 (by omega) (by omega) (by omega))
  have KC2 := hid (fun p c w' (hc : c < 100000000000) (hs : Sts w [memP p X c] w') => wChkBad hc stab0 hs s3)
  clear s1 s2 s3 hlen hcut hbo
  go_enter Try.func6, Try.ntmps6
  go_wp2_with fail
  refine KN.out.mono ?_; rintro e w1 ⟨p, rfl, g1⟩
  have G1 := hid g1
  clear g1
  go_wp2_with fail
  refine (KF.out p w1 G1.out).mono ?_; rintro e w2 ⟨rfl, g2⟩
  have G2 := hid g2
  clear g2 G1
  go_wp2_with fail
  refine (KD.out p w2 G2.out).mono ?_; rintro e w3 ⟨r, rfl, g3⟩
  obtain ⟨c, hc, g3'⟩ := held_mem g3.tail
  have G3 := hid g3'
  have B3 := hid g3.below
  have R3 := hid (show RdW w3 r (List.replicate 20 0) from ⟨by obtain ⟨F, q, _⟩ := g3.head; exact Rd.of_own q (by rw [u32s_len]; simp), by simp⟩)
  clear g3 g3' G2
  have hmk := make20
  have hN := lit_new w3 twenty 48 20 rfl (by decide)
  have hN2 : RdW (w3.alloc (.cells twenty 48)) (.slice (some ⟨w3.heap.size, 0, none⟩) 20 20) (List.replicate 20 0) := hN.rdW (l := List.replicate 20 0) (by simp)
  have hst := hid (fun c => stab1 (memP_stable p (List.replicate 20 0) c))
  have KS := hid (cSame _ _ _ _ _ (R3.out.below hN.below) hN2 (by simp) (by simp))
  have HN := hid hN.below
  clear hN hN2
  go_wp2_with fail
  refine KS.out.mono ?_; rintro e w4 ⟨rfl, g4⟩
  have G4 := hid (G3.out.quiet (hst.out c) (below_step2 HN.out g4))
  clear g4 G3 HN KS R3 hmk B3
  have hd : decide (List.replicate 20 0 = List.replicate 20 0) = true := by simp
  go_wp2_with fail
  refine (KF1.out p c w4 G4.out).mono ?_; rintro e w5 ⟨rfl, g5⟩
  have G5 := hid g5
  clear g5 G4
  go_wp2_with fail
  refine (KF2.out p c w5 G5.out).mono ?_; rintro e w6 ⟨rfl, g6⟩
  have G6 := hid g6
  clear g6 G5
  go_wp2_with fail
  refine (KD2.out p c w6 (by omega) G6.out).mono ?_; rintro e w7 ⟨rfl, g7⟩
  have G7 := hid g7
  clear g7 G6
  go_wp2_with fail
  refine (KC2.out p c w7 (by omega) G7.out).mono ?_; rintro e w8 ⟨rfl, g8⟩
  have B8 := hid g8.below
  clear g8 G7
  go_wp2_with fail
  have hL := lit_new w8 #[.int .u32 1] 48 1 rfl (by decide)
  have B9 := hid (below_step2 B8.out hL.below)
  refine (cLoadNil _ _ [1] (hL.rdW (l := [1]) (by decide)) _).mono ?_; rintro e w9 ⟨rfl, rfl⟩
  clear hL B8
  generalize w8.alloc (.cells #[.int .u32 1] 48) = w9 at *
  go_wp2_with fail
  refine (cDumpNil _).mono ?_; rintro e w' ⟨rfl, rfl⟩
  go_wp2_with fail
  refine (cChkNil _).mono ?_; rintro e w' ⟨rfl, rfl⟩
  go_wp2_with fail
  refine (cAlive _).mono ?_; rintro e w10 ⟨rfl, g10⟩
  have B10 := hid (below_step2 B9.out g10)
  clear g10 B9
  go_wp2_with fail
  go_ret
  exact ⟨rfl, B10.out⟩
theorem tells (w : World) (a b o : Int) : Calls Try.prog 6 #[.int .i64 a, .int .i64 b, .int .i64 o] w fun e w' => e = .returned (.bool true) ∧ Below w.heap.size w w' := by
  by_cases h : a < 0 ∨ 19 < a ∨ b < 0 ∨ 38 < b ∨ o < 0 ∨ 38 < o ∨ b = o
  · exact tells_small w a b o h
  · obtain ⟨x, rfl⟩ := Int.eq_ofNat_of_zero_le (show 0 ≤ a by omega)
    obtain ⟨y, rfl⟩ := Int.eq_ofNat_of_zero_le (show 0 ≤ b by omega)
    obtain ⟨z, rfl⟩ := Int.eq_ofNat_of_zero_le (show 0 ≤ o by omega)
    exact tells_main w x y z (by omega) (by omega) (by omega) (by omega)
end Go.Proofs.Ytdboplkgnnidcaa
