/- The specification's comparison of commands. -/
import Derived.Test.YtimnhheagdhpgaaDoorScrS
import Derived.BigQuiet
set_option linter.unusedVariables false
set_option linter.unusedSimpArgs false
namespace Go.Proofs.YtimnhheagdhpgaaDoor
open Go.RowKit Go.Proofs.Num
open Scr (Str bs numV numsV small svcV fltV nameV bytesV oneV fileV faultV orderV tailV flts parseL parseV b8 textV textL)
/-- What a slice of bytes converts to. -/
theorem conv_bytes {w : World} {v : Value} {b : List UInt8} (h : Rd w v (u8v b)) : (convert 22 9 v).run Tryd.prog w = .ok (.string ⟨b.toArray⟩) w := by
  have h2 : RdB w v (nb b) := ⟨h, nb_lt _⟩
  have := h2.str (P := Tryd.prog) 22 9 5 Tryd.underlying22 Tryd.underlying5 Tryd.underlying9
  rwa [strB_nb] at this
theorem ints_cell {w wr : World} {a : Option Addr} {n c k : Nat} {l : List Int} (h : Rd w (.slice a n c) (intsV l)) (hb : Below w.heap.size w wr) (hk : k < l.length) :
    ∃ b off, a = some ⟨b, off, none⟩ ∧ wr.cell? ⟨b, off + k, none⟩ = some (.int .i64 l[k]) := by
  obtain ⟨a', c', e', hcap, hx⟩ := h
  injection e' with e1 e2 e3
  subst e1
  obtain ⟨b, off, rfl, hb1, hb2⟩ := hx k (by rw [intsV_len]; exact hk)
  refine ⟨b, off, rfl, ?_⟩
  have := cell_below hb hb2
  rw [this]; simp [intsV]
theorem ne_at {l m : List Int} {k : Nat} (h1 : k < l.length) (h2 : k < m.length) (h : l[k] ≠ m[k]) : l ≠ m := by
  rintro rfl; exact h rfl
theorem eq_all {l m : List Int} (hl : l.length = m.length) (h : ∀ j (h1 : j < l.length) (h2 : j < m.length), l[j] = m[j]) : l = m := List.ext_getElem hl h
theorem below_drewN {B : Nat} {a w : World} (h : Below B a w) (n : Nat) : Below B a (w.drewN n) := ⟨h.os, h.tape, h.output, h.size, h.block⟩
section
variable {w : World}
set_option maxRecDepth 100000 in
set_option maxHeartbeats 8000000 in
theorem cSame39 (s1 n1 v1 s2 n2 v2 : Int) (l1 l2 : List Int) (d1 d2 : List UInt8) (a1 a2 : Option Addr) (c1 c2 : Nat) (dv1 dv2 : Value) (ha1 : Rd w (.slice a1 l1.length c1) (intsV l1)) (ha2 : Rd w (.slice a2 l2.length c2) (intsV l2)) (hd1 : Rd w dv1 (u8v d1)) (hd2 : Rd w dv2 (u8v d2)) (hl : l1.length < 1000000) (hl2 : l2.length < 1000000) :
    Calls Tryd.prog 42 #[.agg #[.int .i64 s1, .int .i64 n1, .int .i64 v1, .slice a1 l1.length c1, dv1], .agg #[.int .i64 s2, .int .i64 n2, .int .i64 v2, .slice a2 l2.length c2, dv2]] w fun e w' => e = .returned (.bool (decide (s1 = s2 ∧ n1 = n2 ∧ v1 = v2 ∧ l1 = l2 ∧ d1 = d2))) ∧ Below w.heap.size w w' := by
  obtain ⟨x1, y1, rfl⟩ := hd1.eq
  obtain ⟨x2, y2, rfl⟩ := hd2.eq
  have HB0 : Below w.heap.size w ((w.alloc (.cells #[.int .i64 s1, .int .i64 n1, .int .i64 v1, .slice a1 l1.length c1, .slice x1 (u8v d1).length y1] 25)).alloc (.cells #[.int .i64 s2, .int .i64 n2, .int .i64 v2, .slice a2 l2.length c2, .slice x2 (u8v d2).length y2] 25)) := ((Below.refl _ _).alloc (Nat.le_refl _) _).alloc (by simp) _
  have e1 := conv_bytes (hd1.below HB0)
  have e2 := conv_bytes (hd2.below HB0)
  have HB := hid HB0
  obtain ⟨r, hr⟩ : ∃ r, r = decide (s1 = s2 ∧ n1 = n2 ∧ v1 = v2 ∧ l1 = l2 ∧ d1 = d2) := ⟨_, rfl⟩
  rw [← hr]
  clear HB0 hd1 hd2
  obtain ⟨D1, hD1⟩ : ∃ D1, D1 = (u8v d1).length := ⟨_, rfl⟩
  obtain ⟨D2, hD2⟩ : ∃ D2, D2 = (u8v d2).length := ⟨_, rfl⟩
  rw [← hD1, ← hD2] at e2 HB ⊢
  rw [← hD1, ← hD2] at e1
  clear hD1 hD2
  obtain ⟨L1, hL1⟩ : ∃ L1, L1 = l1.length := ⟨_, rfl⟩
  obtain ⟨L2, hL2⟩ : ∃ L2, L2 = l2.length := ⟨_, rfl⟩
  rw [← hL1, ← hL2] at e2 HB ⊢
  rw [← hL1, ← hL2] at e1
  rw [← hL1] at ha1 hl
  rw [← hL2] at ha2 hl2
  have HL1 := hid hL1
  have HL2 := hid hL2
  have HA1 := hid ha1
  have HA2 := hid ha2
  clear hL1 hL2 ha1 ha2
  by_cases h1 : s1 = s2
  case neg =>
    have hr0 : r = false := by rw [hr]; simp [h1]
    have f1 : (s1 == s2) = false := by simp [h1]
    subst hr0
    clear hr
    go_enter Tryd.func42, Tryd.ntmps42
    go_wp2_with fail
    all_goals (go_ret; exact ⟨rfl, HB.out⟩)
  subst h1
  by_cases h2 : n1 = n2
  case neg =>
    have hr0 : r = false := by rw [hr]; simp [h2]
    have f1 : (n1 == n2) = false := by simp [h2]
    subst hr0
    clear hr
    go_enter Tryd.func42, Tryd.ntmps42
    go_wp2_with fail
    all_goals (go_ret; exact ⟨rfl, HB.out⟩)
  subst h2
  by_cases h3 : v1 = v2
  case neg =>
    have hr0 : r = false := by rw [hr]; simp [h3]
    have f1 : (v1 == v2) = false := by simp [h3]
    subst hr0
    clear hr
    go_enter Tryd.func42, Tryd.ntmps42
    go_wp2_with fail
    all_goals (go_ret; exact ⟨rfl, HB.out⟩)
  subst h3
  by_cases h4 : L1 = L2
  case neg =>
    have hr0 : r = false := by
      rw [hr]
      have : ¬ l1 = l2 := fun e => h4 (by rw [HL1.out, HL2.out, e])
      simp [this]
    have f1 : ((L1 : Int) == (L2 : Int)) = false := by simp; omega
    have f2 : ¬ ((L1 : Int) = (L2 : Int)) := by omega
    subst hr0
    clear hr
    go_enter Tryd.func42, Tryd.ntmps42
    go_wp2_with fail
    all_goals (go_ret; exact ⟨rfl, HB.out⟩)
  by_cases h5 : d1 = d2
  case neg =>
    have hr0 : r = false := by rw [hr]; simp [h5]
    have f1 : (d1 == d2) = false := by simp [h5]
    subst hr0
    subst h4
    clear hr
    go_enter Tryd.func42, Tryd.ntmps42
    go_wp2_with fail
    all_goals (go_ret; exact ⟨rfl, HB.out⟩)
  subst h4 h5
  have hrl : r = decide (l1 = l2) := by rw [hr]; simp
  have HR := hid hrl
  clear hr hrl
  go_enter Tryd.func42, Tryd.ntmps42
  go_wp2_with fail
  obtain ⟨W, hW⟩ : ∃ W, W = ((w.alloc (.cells #[.int .i64 s1, .int .i64 n1, .int .i64 v1, .slice a1 L1 c1, .slice x1 D1 y1] 25)).alloc (.cells #[.int .i64 s1, .int .i64 n1, .int .i64 v1, .slice a2 L1 c2, .slice x2 D2 y2] 25)) := ⟨_, rfl⟩
  have g1 : W.cell? ⟨w.heap.size, 3, none⟩ = some (.slice a1 L1 c1) := by rw [hW]; simp [go_sem]
  have g2 : W.cell? ⟨w.heap.size + 1, 3, none⟩ = some (.slice a2 L1 c2) := by rw [hW]; simp [go_sem]
  rw [← hW] at HB e1 e2 ⊢
  clear hW e1 e2
  have G1 := hid g1
  have G2 := hid g2
  clear g1 g2
  go_loopw [5] (fun i wr => ∃ k : Nat, k ≤ L1 ∧ i = .int .i64 k ∧ Hid (∀ j (h1 : j < l1.length) (h2 : j < l2.length), j < k → l1[j] = l2[j]) ∧ Hid (Below W.heap.size W wr)) (fun i _ => L1 - (intOf i).toNat)
  case atStart => exact ⟨0, by omega, rfl, hid (fun j h1 h2 h3 => by omega), hid (Below.refl _ _)⟩
  case round =>
    obtain ⟨k, hk, rfl, HI, HW⟩ := hrel
    have g1 := cell_below HW.out G1.out
    have g2 := cell_below HW.out G2.out
    have HB2 := hid (HB.out.trans (HW.out.mono HB.out.size))
    by_cases hlt : k < L1
    · have hk1 : k < l1.length := by rw [← HL1.out]; exact hlt
      have hk2 : k < l2.length := by rw [← HL2.out]; exact hlt
      obtain ⟨b1, o1, rfl, hc1⟩ := ints_cell HA1.out HB2.out hk1
      obtain ⟨b2, o2, rfl, hc2⟩ := ints_cell HA2.out HB2.out hk2
      by_cases heq : l1[k] = l2[k]
      · have HI2 := hid (show ∀ j (h1 : j < l1.length) (h2 : j < l2.length), j < k + 1 → l1[j] = l2[j] from fun j h1 h2 h3 => by
          by_cases e : j = k
          · subst e; exact heq
          · exact HI.out j h1 h2 (by omega))
        rw [← heq] at hc2
        obtain ⟨n, hn⟩ : ∃ n, n = l1[k] := ⟨_, rfl⟩
        rw [← hn] at hc1 hc2
        clear hn heq
        go_wp2_with (go_quiet (fail))
        all_goals (go_roundw
                   case rel => exact ⟨k + 1, by omega, by simp, HI2, hid (by first | exact HW.out | exact below_drewN HW.out _)⟩
                   case measure => simp [intOf]; omega)
      · have hr0 : r = false := by rw [HR.out]; simp [ne_at hk1 hk2 heq]
        obtain ⟨n, hn⟩ : ∃ n, n = l1[k] := ⟨_, rfl⟩
        obtain ⟨m, hm⟩ : ∃ m, m = l2[k] := ⟨_, rfl⟩
        rw [← hn] at hc1
        rw [← hm] at hc2
        rw [← hn, ← hm] at heq
        have f1 : (n == m) = false := by simp [heq]
        clear HR hn hm
        subst hr0
        go_wp2_with (go_quiet (fail))
        all_goals (go_ret; exact ⟨rfl, by first | exact HB2.out | exact below_drewN HB2.out _⟩)
    · have hkL : k = L1 := by omega
      have hr0 : r = true := by
        rw [HR.out, decide_eq_true_eq]
        exact eq_all (by rw [← HL1.out, ← HL2.out]) (fun j h1 h2 => HI.out j h1 h2 (by rw [hkL, HL1.out]; exact h1))
      clear HR
      subst hr0
      go_wp2_with fail
      all_goals (go_ret; exact ⟨rfl, HB2.out⟩)
end
end Go.Proofs.YtimnhheagdhpgaaDoor
