/- The contract of spacecraftlaw27.small. -/
import Derived.Test.YtfjadhkhmhnccaaSrcOpen
set_option linter.unusedVariables false
set_option linter.unusedSimpArgs false
namespace Fil
def Stp.smallB (s : Stp) : Bool := !(decide (300 < s.p.name.size) || decide (1000 < s.p.data.length) || decide (40 < s.p.gaps.length))
def preB (nm dl n : Nat) : Bool := !(decide (300 < nm) || (decide (3000 < dl) && decide (dl ≤ 65536)) || decide (65546 < dl) || decide (80 < n))
def smallB (nm dl : Nat) (S : List Stp) : Bool := preB nm dl S.length && S.all Stp.smallB
end Fil
namespace Go.Proofs.Ytfjadhkhmhnccaa
open Go.RowKit Go.Proofs.Num Go.ChangeShapes
theorem StpsAt.cells {w : World} {v : Value} {S : List Fil.Stp} (h : StpsAt w v S) : ∃ a cap, v = .slice a S.length cap ∧ ∀ j, (hj : j < S.length) → ∃ b off, a = some ⟨b, off, none⟩ ∧ b < w.heap.size ∧
    (∀ i x, (Value.int .u8 S[j].kind :: (S[j].p.cells.toList ++ [.int .i64 S[j].now]))[i]? = some x → w.cell? ⟨b, off + j * 13 + i, none⟩ = some x) ∧ PduR w S[j].p := by
  obtain ⟨a, cap, h1, h2, h3⟩ := h
  refine ⟨a, cap, h1, fun j hj => ?_⟩
  obtain ⟨b, off, cs, g1, g2, g3, g4, g5, g6, _⟩ := h3 j hj
  refine ⟨b, off, g1, g2, fun i x hx => ?_, g6⟩
  rw [← g5] at hx
  obtain ⟨hi, hx⟩ := List.getElem?_eq_some_iff.1 hx
  rw [g4 i hi, hx]
section
variable (w : World) (src num cls chunk timeout retries : Int) (name : ByteArray) (vd vl : Value) (data : List Nat) (S : List Fil.Stp) (hd : RdB w vd data) (hS : StpsAt w vl S)
include hd hS
set_option maxRecDepth 100000 in
set_option maxHeartbeats 2000000 in
theorem cSmall : Calls Try.prog 13 #[.agg #[.int .i64 src, .int .i64 num, .int .i64 cls, .string name, vd, .int .i64 chunk, .int .i64 timeout, .int .i64 retries, vl]] w fun e w' => e = .returned (.bool (Fil.smallB name.size data.length S)) ∧ Below w.heap.size w w' := by
  obtain ⟨da, dc, hde⟩ := hd.1.eq
  rw [u8s_len] at hde
  subst hde
  have hb := ((Below.refl w.heap.size w).alloc (Nat.le_refl _) (.cells #[.int .i64 src, .int .i64 num, .int .i64 cls, .string name, .slice da data.length dc, .int .i64 chunk, .int .i64 timeout, .int .i64 retries, vl] 29))
  obtain ⟨la, lc, hle, hx⟩ := (hS.below hb).cells
  subst hle
  have HX := hid hx
  have HB := hid hb
  have hdef : Fil.smallB name.size data.length S = (Fil.preB name.size data.length S.length && S.all Fil.Stp.smallB) := rfl
  generalize hnm : name.size = nm at *
  generalize hdl : data.length = dl at *
  clear hx hb hd hS hdl
  have HNM := hid hnm
  clear hnm
  cases hp : Fil.preB nm dl S.length with
  | false =>
    have HR : Hid (Fil.smallB nm dl S = false) := hid (by rw [hdef, hp]; rfl)
    have hc : decide ((nm : Int) > 300) = true ∨ (decide ((nm : Int) > 300) = false ∧ decide ((dl : Int) > 3000) = true ∧ decide ((dl : Int) ≤ 65536) = true) ∨ (decide ((nm : Int) > 300) = false ∧ decide ((dl : Int) > 3000) = true ∧ decide ((dl : Int) ≤ 65536) = false ∧ decide ((dl : Int) > 65546) = true) ∨ (decide ((nm : Int) > 300) = false ∧ decide ((dl : Int) > 3000) = true ∧ decide ((dl : Int) ≤ 65536) = false ∧ decide ((dl : Int) > 65546) = false ∧ decide ((S.length : Int) > 80) = true) ∨ (decide ((nm : Int) > 300) = false ∧ decide ((dl : Int) > 3000) = false ∧ decide ((dl : Int) > 65546) = false ∧ decide ((S.length : Int) > 80) = true) := by
      unfold Fil.preB at hp
      simp only [Bool.not_eq_false', Bool.or_eq_true, Bool.and_eq_true, decide_eq_true_eq, decide_eq_false_iff_not] at hp ⊢
      omega
    clear hp hdef
    rcases hc with d1 | ⟨d1, d2, d3⟩ | ⟨d1, d2, d3, d4⟩ | ⟨d1, d2, d3, d4, d5⟩ | ⟨d1, d2, d4, d5⟩
    all_goals
      rw [← HNM.out] at d1
      go_enter Try.func13, Try.ntmps13
      go_wp2_with fail
      go_ret
      exact ⟨ret_bool (by rw [HR.out]), HB.out⟩
  | true =>
    have HR : Hid (Fil.smallB nm dl S = S.all Fil.Stp.smallB) := hid (by rw [hdef, hp]; rfl)
    have hc : (decide ((nm : Int) > 300) = false ∧ decide ((dl : Int) > 3000) = true ∧ decide ((dl : Int) ≤ 65536) = false ∧ decide ((dl : Int) > 65546) = false ∧ decide ((S.length : Int) > 80) = false) ∨ (decide ((nm : Int) > 300) = false ∧ decide ((dl : Int) > 3000) = false ∧ decide ((dl : Int) > 65546) = false ∧ decide ((S.length : Int) > 80) = false) := by
      unfold Fil.preB at hp
      simp only [Bool.not_eq_true', Bool.or_eq_false_iff, Bool.and_eq_false_iff, decide_eq_true_eq, decide_eq_false_iff_not] at hp ⊢
      omega
    have hn : S.length ≤ 80 := by
      unfold Fil.preB at hp
      simp only [Bool.not_eq_true', Bool.or_eq_false_iff, Bool.and_eq_false_iff, decide_eq_true_eq, decide_eq_false_iff_not] at hp
      omega
    clear hp hdef
    rcases hc with ⟨d1, d2, d3, d4, d5⟩ | ⟨d1, d2, d4, d5⟩
    all_goals
      rw [← HNM.out] at d1
      go_enter Try.func13, Try.ntmps13
      go_wp2_with fail
      go_loop [3] (fun i => ∃ k : Nat, k ≤ S.length ∧ i = .int .i64 k ∧ (S.take k).all Fil.Stp.smallB = true) (fun i => S.length - (intOf i).toNat)
      case atStart => exact ⟨0, by omega, rfl, rfl⟩
      case round =>
        obtain ⟨k, hk, rfl, hall⟩ := hrel
        have HA := hid hall
        clear hall
        by_cases hlt : k < S.length
        · obtain ⟨b, off, rfl, hbb, hcell, -⟩ := HX.out k hlt
          have c5 := hcell 5 _ rfl
          have c8 := hcell 8 _ rfl
          have c11 := hcell 11 _ rfl
          have HT : Hid (S.take (k + 1) = S.take k ++ [S[k]]) := hid (by rw [List.take_add_one, List.getElem?_eq_getElem hlt]; rfl)
          have HM : Hid (S[k] ∈ S) := hid (List.getElem_mem hlt)
          clear hcell
          generalize S[k] = s at *
          obtain ⟨sk, p, sn⟩ := s
          simp only [] at c5 c8 c11
          cases hs : Fil.Stp.smallB ⟨sk, p, sn⟩ with
          | false =>
            have HF : Hid (S.all Fil.Stp.smallB = false) := hid (by rw [List.all_eq_false]; exact ⟨_, HM.out, by rw [hs]; simp⟩)
            have hc : decide ((p.name.size : Int) > 300) = true ∨ (decide ((p.name.size : Int) > 300) = false ∧ decide ((p.data.length : Int) > 1000) = true) ∨ (decide ((p.name.size : Int) > 300) = false ∧ decide ((p.data.length : Int) > 1000) = false ∧ decide ((p.gaps.length : Int) > 40) = true) := by
              unfold Fil.Stp.smallB at hs
              simp only [Bool.not_eq_false', Bool.or_eq_true, Bool.and_eq_true, decide_eq_true_eq, decide_eq_false_iff_not] at hs ⊢
              omega
            clear hs
            rcases hc with q1 | ⟨q1, q2⟩ | ⟨q1, q2, q3⟩
            all_goals
              go_wp2_with fail
              go_ret
              exact ⟨ret_bool (by rw [HR.out, HF.out]), HB.out⟩
          | true =>
            have hc : decide ((p.name.size : Int) > 300) = false ∧ decide ((p.data.length : Int) > 1000) = false ∧ decide ((p.gaps.length : Int) > 40) = false := by
              unfold Fil.Stp.smallB at hs
              simp only [Bool.not_eq_true', Bool.or_eq_false_iff, Bool.and_eq_false_iff, decide_eq_true_eq, decide_eq_false_iff_not] at hs ⊢
              omega
            have HSS := hid hs
            clear hs
            obtain ⟨q1, q2, q3⟩ := hc
            go_wp2_with fail
            go_round
            case rel => exact ⟨k + 1, by omega, by go_num, by rw [HT.out, List.all_append, HA.out]; simp [HSS.out]⟩
            case measure => simp [intOf]; omega
        · obtain rfl : k = S.length := by omega
          have hall := HA.out
          rw [List.take_length] at hall
          have HALL := hid hall
          clear hall
          go_wp2_with fail
          go_ret
          exact ⟨ret_bool (by rw [HR.out, HALL.out]), HB.out⟩
end
end Go.Proofs.Ytfjadhkhmhnccaa
