/- The contracts of Dump and Check upon a memory of words. -/
import Derived.Test.YtdboplkgnnidcaaPatMemB
set_option linter.unusedVariables false
namespace Pat
def cut (want : List Nat) (a n : Nat) : List Nat := (want.drop a).take n
theorem cut_len (want : List Nat) (a n : Nat) (h : a + n ≤ want.length) : (cut want a n).length = n := by simp [cut]; omega
theorem cut_succ (want : List Nat) (a k : Nat) (h : a + k < want.length) : cut want a (k + 1) = cut want a k ++ [want.getD (a + k) 0] := by
  unfold cut
  rw [List.take_succ_eq_append_getElem (by simp; omega)]
  simp [List.getD, h]
theorem cut_lt (want : List Nat) (a n : Nat) (h : ∀ x ∈ want, x < 4294967296) : ∀ x ∈ cut want a n, x < 4294967296 :=
  fun x hx => h x (List.mem_of_mem_drop (List.mem_of_mem_take hx))
end Pat
namespace Go.Proofs.Ytdboplkgnnidcaa
open Go.RowKit Go.Proofs.Num
section
variable {W w : World} {p K : Nat} {want : List Nat} {l : List HProp}
/-- What Dump leaves: its error, or the words in a new row. -/
def Dumped (W : World) (p K : Nat) (want : List Nat) (l : List HProp) (a n : Int) (e : Ending) (w' : World) : Prop :=
  (Pat.chkE want.length a n ≠ 0 ∧ e = .returned (.tuple #[.slice none 0 0, .int .i64 (Pat.chkE want.length a n : Nat)]) ∧ Sts W (wordP p K want :: l) w') ∨
  (Pat.chkE want.length a n = 0 ∧ ∃ r, e = .returned (.tuple #[r, .int .i64 0]) ∧ Sts W (rowP 48 1 r n.toNat (u32s (Pat.cut want a.toNat n.toNat)) :: wordP p K want :: l) w')
set_option maxRecDepth 100000 in
theorem wDump (hK : K < 100000000000) (hl : ∀ B ∈ l, Stable B) (hs : Sts W (wordP p K want :: l) w) (a n : Int) (ha : -9223372036854775808 ≤ a ∧ a < 9223372036854775808) :
    Calls Try.prog 24 #[.pointer (some ⟨p, 0, none⟩), .int .i64 a, .int .i64 n] w (Dumped W p K want l a n) := by
  have hfew := Sts.fewW hs
  have HC := hid (cCheck want.length hfew a n ha (.pointer (some ⟨p, 0, none⟩)) w (fun w' => Sts W (wordP p K want :: l) w') (Sts.callV hl hs wSize))
  have hle := chkE_le want.length a n
  have hz := @chkE_zero want.length a n
  have HD : Hid (∀ e w', Dumped W p K want l a n e w' = Dumped W p K want l a n e w') := fun _ _ => rfl
  obtain ⟨i0, hi, hz0, hz1, hz2⟩ := info_parts info32
  by_cases h0 : Pat.chkE want.length a n = 0
  · obtain ⟨hn1, ha0, hsz⟩ := hz h0
    have H0 := hid h0
    rw [h0] at HC
    clear hz h0 hs hle
    obtain ⟨n, rfl⟩ := Int.eq_ofNat_of_zero_le (show 0 ≤ n by omega)
    obtain ⟨a, rfl⟩ := Int.eq_ofNat_of_zero_le ha0
    go_enter Try.func24, Try.ntmps24
    go_wp2_with fail
    refine HC.out.mono ?_; rintro e w1 ⟨rfl, h1⟩
    have H1 := hid (h1.rowNil 48)
    clear h1
    go_wp2_with fail
    go_loopw [9, 21] (fun r i wr => ∃ k : Nat, k ≤ n ∧ i = .int .i64 k ∧ Sts W (rowP 48 1 r k (u32s (Pat.cut want a k)) :: wordP p K want :: l) wr) (fun _ i _ => n - (intOf i).toNat)
    case atStart => exact ⟨0, by omega, rfl, by rw [show Pat.cut want a 0 = [] by simp [Pat.cut]]; exact H1.out⟩
    case round =>
      obtain ⟨k, hk, rfl, hs⟩ := hrel
      by_cases hlt : k < n
      · have hrs : Stable (rowP 48 1 u9 k (u32s (Pat.cut want a k))) := rowP_stable _ _ _ _ _
        have KR := hid (Sts.callV (stabC hrs hl) hs.swap (wRead hK (a + k) (by omega)))
        have HU := hid (Pat.cut_succ want a k (by omega))
        have e4 : (a : Int) + k = ((a + k : Nat) : Int) := by omega
        have hlw := hid (stabC (wordP_stable p K want) hl)
        have hst := hid (stabC hrs hlw.out)
        rw [← e4] at KR
        clear e4 hs hrs
        generalize want.getD (a + k) 0 = x at *
        generalize Pat.cut want a k = ys at *
        go_wp2_with fail
        refine KR.out.mono ?_; rintro e w3 ⟨rfl, h3⟩
        have H3 := hid (h3.swap)
        have H4 := hid (h3.swap.box hst.out (.cells #[.int .u32 (x : Nat)] 48))
        have ho := hid H4.out.rowOwn
        clear h3
        go_wp2_with (at_builtin; refine wpList_append_lies _ rfl _ _ _ rfl 0 48 i0 (.int .u32 0) 1 4 Try.underlying22 hi hz0 hz1 hz2 rfl (by omega) u9 k (u32s ys) rfl ho.out ⟨w3.heap.size, 0, none⟩ 1 1 (u32s [x]) rfl (by simp [u32s]) (World.news_of_block (cs := #[.int .u32 (x : Nat)]) (t := 48) (fr := (0, 0)) (heap_new _ _ rfl)) (u32s_one _) (by omega) (by unfold maxLen; omega) (by omega) (by simp) (w3.heap.size + 1) (by simp) ?_; intro g cap w4 hown hgrow hat hlt2)
        have H5 := hid (H4.out.grown hlw.out hgrow hown (by intro q hq; simp only [Value.ownBlock, Option.some.injEq] at hq; subst hq; rcases hat with h | h; exact Or.inl h; exact Or.inr (by simp; omega)))
        clear hown hgrow hat hlt2
        go_roundw
        case rel => exact ⟨k + 1, by omega, by go_num, by rw [HU.out, u32s_app]; exact H5.out⟩
        case measure => simp [intOf]; omega
      · obtain rfl : k = n := by omega
        have HF := hid hs
        clear hs
        go_wp2_with fail
        go_ret2
        exact Or.inr ⟨H0.out, _, rfl, HF.out⟩
  · have z0 : ((Pat.chkE want.length a n : Nat) : Int) != 0 := by simp; omega
    have H0 := hid h0
    clear hz h0 hs
    obtain ⟨c, hc⟩ : ∃ c, c = Pat.chkE want.length a n := ⟨_, rfl⟩
    rw [← hc] at HC z0 hle
    have Hc := hid hc
    clear hc
    go_enter Try.func24, Try.ntmps24
    go_wp2_with fail
    refine HC.out.mono ?_; rintro e w1 ⟨rfl, h1⟩
    go_wp2_with fail
    go_ret2
    exact Or.inl ⟨H0.out, by rw [← Hc.out]; rfl, h1⟩
/-- What Check leaves. -/
theorem wCheck (hK : K < 100000000000) (hl : ∀ B ∈ l, Stable B) (hs : Sts W (wordP p K want :: l) w) (a n : Int) (ha : -9223372036854775808 ≤ a ∧ a < 9223372036854775808) (hval : ∀ x ∈ want, x < 4294967296) :
    Calls Try.prog 25 #[.pointer (some ⟨p, 0, none⟩), .int .i64 a, .int .i64 n] w fun e w' =>
      e = .returned (.tuple #[.int .u16 (if Pat.chkE want.length a n = 0 then sum16 (Pat.cut want a.toNat n.toNat) else 0 : Nat), .int .i64 (Pat.chkE want.length a n : Nat)]) ∧ Sts W (wordP p K want :: l) w' := by
  have HD := hid (wDump hK hl hs a n ha)
  have hfew := Sts.fewW hs
  have hz := @chkE_zero want.length a n
  have hle := chkE_le want.length a n
  have HS := hid (fun r w' (h : Sts W (rowP 48 1 r n.toNat (u32s (Pat.cut want a.toNat n.toNat)) :: wordP p K want :: l) w') (e : (Pat.cut want a.toNat n.toNat).length = n.toNat) (hn : n.toNat < 1000000000) =>
    (cPSum w' r (Pat.cut want a.toNat n.toNat) ⟨by obtain ⟨F, h1, _⟩ := h.head; exact Rd.of_own h1 (by rw [u32s_len]; exact e), Pat.cut_lt _ _ _ hval⟩ (by omega)).mono fun e w'' ⟨he, hb⟩ => And.intro he (h.quiet (stabC (rowP_stable _ _ _ _ _) (stabC (wordP_stable p K want) hl)) hb).tail)
  by_cases h0 : Pat.chkE want.length a n = 0
  · obtain ⟨hn1, ha0, hsz⟩ := hz h0
    have H0 := hid h0
    have e1 : (Pat.cut want a.toNat n.toNat).length = n.toNat := Pat.cut_len _ _ _ (by omega)
    have HS2 := hid (fun r w' h => HS.out r w' h e1 (by omega))
    rw [h0, if_pos rfl]
    clear h0 hz hs hle e1 HS
    go_enter Try.func25, Try.ntmps25
    go_wp2_with fail
    refine HD.out.mono ?_; rintro e w1 (⟨h, _⟩ | ⟨_, r, rfl, h1⟩)
    · exact absurd H0.out h
    · have H1 := hid h1
      clear h1
      go_wp2_with fail
      refine (HS2.out _ _ H1.out).mono ?_; rintro e w2 ⟨rfl, h2⟩
      go_wp2_with fail
      go_ret2
      exact ⟨rfl, h2⟩
  · have H0 := hid h0
    rw [if_neg h0]
    have z0 : (((Pat.chkE want.length a n : Nat) : Int) != 0) = true := by simp; omega
    clear h0 hz hs
    generalize hc : Pat.chkE want.length a n = c at *
    go_enter Try.func25, Try.ntmps25
    go_wp2_with fail
    refine HD.out.mono ?_; rintro e w1 (⟨_, rfl, h1⟩ | ⟨h, _⟩)
    · rw [hc]
      clear hc
      go_wp2_with fail
      go_ret2
      exact ⟨rfl, h1⟩
    · exact absurd (hc ▸ h) H0.out
end
end Go.Proofs.Ytdboplkgnnidcaa
