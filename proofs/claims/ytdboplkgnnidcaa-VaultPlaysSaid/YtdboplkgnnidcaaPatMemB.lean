/- The contracts of Load, Dump and Check upon a memory of words; the specification's Load. -/
import Derived.Test.YtdboplkgnnidcaaPatMem
set_option linter.unusedVariables false
namespace Go.Proofs.Ytdboplkgnnidcaa
open Go.RowKit Go.Proofs.Num
/-- The error of a load. -/
def loadE (size : Nat) (a : Int) (xs : List Nat) (sum : Nat) : Nat := if Pat.chkE size a xs.length = 0 then (if sum = sum16 xs then 0 else 5) else Pat.chkE size a xs.length
theorem chkE_zero {size : Nat} {a n : Int} (h : Pat.chkE size a n = 0) : 1 ≤ n ∧ 0 ≤ a ∧ a + n ≤ size := by
  unfold Pat.chkE at h
  split at h
  · cases h
  · split at h
    · cases h
    · omega
theorem chkE_le (size : Nat) (a n : Int) : Pat.chkE size a n ≤ 2 := by unfold Pat.chkE; split <;> (try split) <;> omega
theorem cRLoad (size : Nat) (hs : size ≤ 65536) (a : Int) (ha : -9223372036854775808 ≤ a ∧ a < 9223372036854775808) (v : Value) (xs : List Nat) (sum : Nat) (w : World) (h : RdW w v xs) (hn : xs.length < 1000000000) :
    Calls Try.prog 22 #[.int .i64 size, .int .i64 a, v, .int .u16 sum] w fun e w' => e = .returned (.int .i64 (loadE size a xs sum : Nat)) ∧ Below w.heap.size w w' := by
  have KS := hid (cRSum w v xs h hn)
  have HB := hid (Below.refl w.heap.size w)
  obtain ⟨b, cap, rfl, _⟩ := h.open
  unfold loadE Pat.chkE
  clear h
  by_cases h0 : size = 0
  · subst h0
    rw [if_pos rfl, if_neg (by decide)]
    go_enter Try.func22, Try.ntmps22
    go_wp2_with fail
    go_ret
    exact ⟨rfl, HB.out⟩
  · rw [if_neg h0]
    have z0 : ((size : Int) == 0) = false := by simp; omega
    by_cases h1 : xs.length = 0
    · have z1 : ((xs.length : Int) == 0) = true := by simp; exact List.eq_nil_of_length_eq_zero h1
      have hc : (xs.length : Int) < 1 ∨ a < 0 ∨ (size : Int) < a ∨ (size : Int) - a < xs.length := by omega
      rw [if_pos hc, if_neg (by decide)]
      clear hc h1
      go_enter Try.func22, Try.ntmps22
      go_wp2_with fail
      go_ret
      exact ⟨rfl, HB.out⟩
    · have z1 : ((xs.length : Int) == 0) = false := by simp; intro e; rw [e] at h1; exact h1 rfl
      by_cases h2 : a < 0
      · have hc : (xs.length : Int) < 1 ∨ a < 0 ∨ (size : Int) < a ∨ (size : Int) - a < xs.length := by omega
        rw [if_pos hc, if_neg (by decide)]
        clear hc
        go_enter Try.func22, Try.ntmps22
        go_wp2_with fail
        go_ret
        exact ⟨rfl, HB.out⟩
      · by_cases h3 : (size : Int) < a
        · have hc : (xs.length : Int) < 1 ∨ a < 0 ∨ (size : Int) < a ∨ (size : Int) - a < xs.length := by omega
          rw [if_pos hc, if_neg (by decide)]
          clear hc
          go_enter Try.func22, Try.ntmps22
          go_wp2_with fail
          go_ret
          exact ⟨rfl, HB.out⟩
        · by_cases h4 : (size : Int) - a < xs.length
          · have hc : (xs.length : Int) < 1 ∨ a < 0 ∨ (size : Int) < a ∨ (size : Int) - a < xs.length := by omega
            rw [if_pos hc, if_neg (by decide)]
            clear hc
            go_enter Try.func22, Try.ntmps22
            go_wp2_with fail
            go_ret
            exact ⟨rfl, HB.out⟩
          · have hc : ¬ ((xs.length : Int) < 1 ∨ a < 0 ∨ (size : Int) < a ∨ (size : Int) - a < xs.length) := by omega
            rw [if_neg hc, if_pos rfl]
            clear hc
            generalize sum16 xs = z at *
            by_cases h5 : sum = z
            · subst h5
              rw [if_pos rfl]
              go_enter Try.func22, Try.ntmps22
              go_wp2_with fail
              refine KS.out.mono ?_; rintro e w1 ⟨rfl, hq⟩
              go_wp2_with fail
              go_ret
              exact ⟨rfl, hq⟩
            · have z5 : ((sum : Int) != z) = true := by simp; omega
              have z6 : ((sum : Int) == z) = false := by simp; omega
              rw [if_neg h5]
              go_enter Try.func22, Try.ntmps22
              go_wp2_with fail
              refine KS.out.mono ?_; rintro e w1 ⟨rfl, hq⟩
              go_wp2_with fail
              go_ret
              exact ⟨rfl, hq⟩
section
variable {W w : World} {p K : Nat} {want : List Nat} {l : List HProp}
theorem Sts.fewW (h : Sts W (wordP p K want :: l) w) : want.length ≤ 65536 := by obtain ⟨F, h⟩ := h.head; exact h.few
set_option maxRecDepth 100000 in
theorem wLoad (hK : K < 100000000000) (hl : ∀ B ∈ l, Stable B) (hs : Sts W (wordP p K want :: l) w) (v : Value) (xs : List Nat) (hR : RdsW W l v xs) (a : Int) (ha : -9223372036854775808 ≤ a ∧ a < 9223372036854775808) (sum : Nat) (hn : xs.length < 1000000000) :
    Calls Try.prog 21 #[.pointer (some ⟨p, 0, none⟩), .int .i64 a, v, .int .u16 sum] w fun e w' => e = .returned (.int .i64 (loadE want.length a xs sum : Nat)) ∧
      Sts W (wordP p K (if loadE want.length a xs sum = 0 then Pat.upd want a.toNat xs else want) :: l) w' := by
  have hfew := Sts.fewW hs
  have HC := hid (cCheck want.length hfew a xs.length ha (.pointer (some ⟨p, 0, none⟩)) w (fun w' => Sts W (wordP p K want :: l) w') (Sts.callV hl hs wSize))
  have HS := hid (fun w' (h : Sts W (wordP p K want :: l) w') => cPSum w' v xs (hR.at h) hn)
  have hq := hid (fun w' w'' (h : Sts W (wordP p K want :: l) w') (k : Below w'.heap.size w' w'') => h.quiet (stabC (wordP_stable p K want) hl) k)
  have HRd := hid hR
  obtain ⟨b, cap, rfl, _⟩ := (hR.at hs).open
  unfold loadE
  have hle := chkE_le want.length a xs.length
  have hz := @chkE_zero want.length a xs.length
  generalize hc : Pat.chkE want.length a xs.length = c at *
  clear hc hR hs
  by_cases h0 : c = 0
  · obtain ⟨hz1, hz2, hz3⟩ := hz h0
    subst h0
    rw [if_pos rfl]
    by_cases h5 : sum = sum16 xs
    · rw [if_pos h5, if_pos rfl]
      have z5 : ((sum : Int) != (sum16 xs : Nat)) = false := by rw [h5]; simp
      clear h5
      obtain ⟨n, rfl⟩ := Int.eq_ofNat_of_zero_le hz2
      simp only [Int.toNat_natCast] at *
      generalize sum16 xs = z at *
      go_enter Try.func21, Try.ntmps21
      go_wp2_with fail
      refine HC.out.mono ?_; rintro e w1 ⟨rfl, h1⟩
      have H1 := hid h1
      clear h1
      go_wp2_with fail
      refine (HS.out _ H1.out).mono ?_; rintro e w2 ⟨rfl, h2⟩
      have H2 := hid (hq.out _ _ H1.out h2)
      clear h2
      go_wp2_with fail
      go_loopw [27] (fun i wr => ∃ k : Nat, k ≤ xs.length ∧ i = .int .i64 k ∧ Sts W (wordP p K (Pat.upd want n (xs.take k)) :: l) wr) (fun i _ => xs.length - (intOf i).toNat)
      case atStart => exact ⟨0, by omega, rfl, by rw [List.take_zero, Pat.upd_nil]; exact H2.out⟩
      case round =>
        obtain ⟨k, hk, rfl, hs⟩ := hrel
        by_cases hlt : k < xs.length
        · obtain ⟨b', cap', e1, hcell⟩ := (HRd.out.at hs).open
          injection e1 with e1 e2 e3
          subst e1; subst e3; clear e2
          obtain ⟨b, off, rfl, hb, hcc⟩ := hcell k hlt
          have hxb := HRd.out.2 _ (List.getElem_mem hlt)
          have KW := hid (Sts.callV hl hs (wWrite (n + k) xs[k] (by rw [Pat.upd_len _ _ _ (by simp; omega)]; omega) hxb))
          have HU := hid (Pat.upd_take want n xs k hlt (by omega))
          have e4 : (n : Int) + k = ((n + k : Nat) : Int) := by omega
          rw [← e4] at KW
          clear e4 hcell hs
          generalize xs[k] = x at *
          go_wp2_with fail
          refine KW.out.mono ?_; rintro e w3 ⟨rfl, h3⟩
          rw [HU.out] at h3
          have H3 := hid h3
          clear h3
          go_wp2_with fail
          go_roundw
          case rel => exact ⟨k + 1, by omega, by go_num, H3.out⟩
          case measure => simp [intOf]; omega
        · rw [List.take_of_length_le (by omega)] at hs
          have HF := hid hs
          clear hs
          go_wp2_with fail
          go_ret
          exact ⟨rfl, HF.out⟩
    · rw [if_neg h5, if_neg (by decide)]
      have z5 : ((sum : Int) != (sum16 xs : Nat)) = true := by simp; omega
      clear h5
      generalize sum16 xs = z at *
      go_enter Try.func21, Try.ntmps21
      go_wp2_with fail
      refine HC.out.mono ?_; rintro e w1 ⟨rfl, h1⟩
      have H1 := hid h1
      clear h1
      go_wp2_with fail
      refine (HS.out _ H1.out).mono ?_; rintro e w2 ⟨rfl, h2⟩
      have H2 := hid (hq.out _ _ H1.out h2)
      clear h2
      go_wp2_with fail
      go_ret
      exact ⟨rfl, H2.out⟩
  · rw [if_neg h0, if_neg h0]
    have z0 : ((c : Int) != 0) = true := by simp; omega
    clear hz
    go_enter Try.func21, Try.ntmps21
    go_wp2_with fail
    refine HC.out.mono ?_; rintro e w1 ⟨rfl, h1⟩
    go_wp2_with fail
    go_ret
    exact ⟨rfl, h1⟩
end
end Go.Proofs.Ytdboplkgnnidcaa
