/- Reading numbers. -/
import Derived.Test.YtimnhheagdhpgaaDoorScrA
import Derived.Lib.AtoiErrMem
import Derived.Lib.AppendIntMem
set_option linter.unusedVariables false
set_option linter.unusedSimpArgs false
namespace Go.Proofs.YtimnhheagdhpgaaDoor
open Go.RowKit Go.Proofs.Num Scr
section
variable {w : World}
theorem cItoa (n : Int) (h0 : -9223372036854775808 ≤ n) (h1 : n ≤ 9223372036854775807) (hE : Env w) : Calls Tryd.prog 44 #[.int .i64 n] w fun e w' => e = .returned (.string ⟨(Lib.itoa n).toArray⟩) ∧ Below w.heap.size w w' := by
  refine (Tryd.strconv_Itoa n h0 h1 w hE.tab).mono ?_
  rintro e w' ⟨rfl, k, os, rfl⟩
  exact ⟨rfl, Lib.below_grow _ _ (Nat.le_refl _) _ _⟩
/-- What Atoi gives. -/
def atoiE (x : World) (r : Lib.NumEnd Int) (e : Ending) : Prop := match r with
  | .ok v => e = .returned (.tuple #[.int .i64 v, .nilIface])
  | _ => ∃ (z : Int) (t : TypeId) (p : Value), e = .returned (.tuple #[.int .i64 z, .iface t p])
theorem cAtoi (S : ByteArray) (hs : S.size ≤ 281474976710656) (hE : Env w) : Calls Tryd.prog 65 #[.string S] w fun e w' => atoiE w (Lib.atoiAll (bs S)) e ∧ Below w.heap.size w w' := by
  cases h : Lib.atoiAll (bs S) with
  | ok v =>
    refine (Tryd.strconv_Atoi_ok S (by omega) v h w).mono ?_
    rintro e w' ⟨rfl, h⟩
    refine ⟨rfl, ?_⟩
    rcases h with rfl | ⟨t, rfl⟩
    · exact Below.refl _ _
    · exact Lib.bytesWorld_below _ _ _
  | range =>
    obtain ⟨t, p, hv⟩ := hE.rng
    refine (Tryd.strconv_Atoi_range S hs h _ w hv (Or.inr ⟨t, p, rfl⟩)).mono ?_
    rintro e w' ⟨N, rfl, -, -, hb⟩
    exact ⟨⟨_, _, _, rfl⟩, hb⟩
  | _ =>
    obtain ⟨t, p, hv⟩ := hE.syn
    refine (Tryd.strconv_Atoi_none S hs _ (fun v e => by cases e) (fun e => by cases e) h _ w hv (Or.inr ⟨t, p, rfl⟩)).mono ?_
    rintro e w' ⟨N, rfl, -, -, hb⟩
    exact ⟨⟨_, _, _, rfl⟩, hb⟩
theorem str_eq (l : Str) (S : ByteArray) : ((⟨l.toArray⟩ : ByteArray).toList == S.toList) = decide (l = bs S) := by
  rw [ByteArray.toList_mk, ByteArray.toList_eq, Bool.eq_iff_iff]
  simp [bs]
def numP (o : Option Int) : Value := .tuple #[.int .i64 (o.getD 0), .bool o.isSome]
set_option maxHeartbeats 2000000 in
theorem cNumber (S : ByteArray) (hs : S.size ≤ 281474976710656) (hE : Env w) : Calls Tryd.prog 51 #[.string S] w fun e w' => e = .returned (numP (numV (bs S))) ∧ Below w.heap.size w w' := by
  have HA := cAtoi S hs hE
  have HE := hid hE
  clear hE
  cases h : Lib.atoiAll (bs S) with
  | ok v =>
    have hb := Lib.atoiAll_bounds h
    rw [h] at HA
    obtain ⟨b, hb0⟩ : ∃ b, b = decide (Lib.itoa v = bs S) := ⟨_, rfl⟩
    have heq : ((⟨(Lib.itoa v).toArray⟩ : ByteArray).toList == S.toList) = b := by rw [str_eq, hb0]
    have hr : numV (bs S) = if b = true ∧ small v = true then some v else none := by
      unfold numV; rw [h, hb0]; simp
    rw [ByteArray.toList_mk] at heq
    obtain ⟨h0, h1⟩ := hb
    obtain ⟨o, ho⟩ : ∃ o, o = numV (bs S) := ⟨_, rfl⟩
    rw [← ho]
    rw [hr] at ho
    clear hr hb0 h
    cases b with
    | false =>
      rw [if_neg (by simp)] at ho
      subst ho
      · go_enter Tryd.func51, Tryd.ntmps51
        go_wp2_with (first | (go_at_call 65; refine HA.mono ?_; rintro e w1 ⟨rfl, hb1⟩; have HB := hid hb1; clear hb1; have HE1 := hid (HE.out.below HB.out)) | (go_at_call 44; refine (cItoa v h0 h1 HE1.out).mono ?_; rintro e w2 ⟨rfl, hb2⟩; have HB2 := hid (HB.out.trans (hb2.mono HB.out.size)); clear hb2))
        all_goals (go_ret2; exact ⟨rfl, HB2.out⟩)
    | true =>
      by_cases hsm : -1099511627776 ≤ v ∧ v ≤ 1099511627776
      · rw [if_pos ⟨rfl, by simp [small, hsm]⟩] at ho
        subst ho
        obtain ⟨g0, g1⟩ := hsm
        go_enter Tryd.func51, Tryd.ntmps51
        go_wp2_with (first | (go_at_call 65; refine HA.mono ?_; rintro e w1 ⟨rfl, hb1⟩; have HB := hid hb1; clear hb1; have HE1 := hid (HE.out.below HB.out)) | (go_at_call 44; refine (cItoa v h0 h1 HE1.out).mono ?_; rintro e w2 ⟨rfl, hb2⟩; have HB2 := hid (HB.out.trans (hb2.mono HB.out.size)); clear hb2))
        all_goals (go_ret2; exact ⟨rfl, HB2.out⟩)
      · rw [if_neg (by simp [small]; omega)] at ho
        subst ho
        rcases (show v < -1099511627776 ∨ (-1099511627776 ≤ v ∧ 1099511627776 < v) by omega) with g0 | ⟨g0, g1⟩
        · go_enter Tryd.func51, Tryd.ntmps51
          go_wp2_with (first | (go_at_call 65; refine HA.mono ?_; rintro e w1 ⟨rfl, hb1⟩; have HB := hid hb1; clear hb1; have HE1 := hid (HE.out.below HB.out)) | (go_at_call 44; refine (cItoa v h0 h1 HE1.out).mono ?_; rintro e w2 ⟨rfl, hb2⟩; have HB2 := hid (HB.out.trans (hb2.mono HB.out.size)); clear hb2))
          all_goals (go_ret2; exact ⟨rfl, HB2.out⟩)
        · go_enter Tryd.func51, Tryd.ntmps51
          go_wp2_with (first | (go_at_call 65; refine HA.mono ?_; rintro e w1 ⟨rfl, hb1⟩; have HB := hid hb1; clear hb1; have HE1 := hid (HE.out.below HB.out)) | (go_at_call 44; refine (cItoa v h0 h1 HE1.out).mono ?_; rintro e w2 ⟨rfl, hb2⟩; have HB2 := hid (HB.out.trans (hb2.mono HB.out.size)); clear hb2))
          all_goals (go_ret2; exact ⟨rfl, HB2.out⟩)
  | range =>
    rw [h] at HA
    have ho : numV (bs S) = none := by unfold numV; rw [h]
    rw [ho]
    clear ho h
    go_enter Tryd.func51, Tryd.ntmps51
    go_wp2_with (first | (go_at_call 65; refine HA.mono ?_; rintro e w1 ⟨⟨z, t, p, rfl⟩, hb1⟩; have HB := hid hb1; clear hb1))
    all_goals (go_ret2; exact ⟨rfl, HB.out⟩)
  | _ =>
    rw [h] at HA
    have ho : numV (bs S) = none := by unfold numV; rw [h]
    rw [ho]
    clear ho h
    go_enter Tryd.func51, Tryd.ntmps51
    go_wp2_with (first | (go_at_call 65; refine HA.mono ?_; rintro e w1 ⟨⟨z, t, p, rfl⟩, hb1⟩; have HB := hid hb1; clear hb1))
    all_goals (go_ret2; exact ⟨rfl, HB.out⟩)
end
end Go.Proofs.YtimnhheagdhpgaaDoor
