/- Slices of ranges; the contract of pdu's gaps. -/
import Derived.Test.YtfjadhkhmhnccaaPduSmall
import Derived.Outline
set_option linter.unusedVariables false
set_option linter.unusedSimpArgs false
namespace Fil
def gapsGo (first : Bool) (last : Int) : List Rng.R → Bool
  | [] => true
  | g :: l => if first = true ∧ g = (0, 0) then gapsGo false last l else if g.1 ≤ last ∨ g.1 < 0 ∨ g.2 ≤ g.1 ∨ 65536 < g.2 then false else gapsGo false g.2 l
def gapsB (l : List Rng.R) : Bool := gapsGo true (-1) l && withinB l.length 1 16
end Fil
namespace Go.Proofs.Ytfjadhkhmhnccaa
open Go.RowKit Go.Proofs.Num
/-- The slice v reads as the ranges l. -/
def RdR (w : World) (v : Value) (l : List Rng.R) : Prop := ∃ a cap, v = .slice a l.length cap ∧ (l.length ≤ cap ∧ cap ≤ maxLen) ∧ ∀ j, (h : j < l.length) → ∃ b off, a = some ⟨b, off, none⟩ ∧ b < w.heap.size ∧
  w.cell? ⟨b, off + j * 2, none⟩ = some (.int .i64 l[j].1) ∧ w.cell? ⟨b, off + j * 2 + 1, none⟩ = some (.int .i64 l[j].2)
theorem RdR.below {w w' : World} {v : Value} {l : List Rng.R} (h : RdR w v l) (k : Below w.heap.size w w') : RdR w' v l := by
  obtain ⟨a, cap, h1, h2, h3⟩ := h
  refine ⟨a, cap, h1, h2, fun j hj => ?_⟩
  obtain ⟨b, off, g1, g2, g3, g4⟩ := h3 j hj
  exact ⟨b, off, g1, by have := k.size; omega, by rw [k.cell g2]; exact g3, by rw [k.cell g2]; exact g4⟩
theorem below_drewN {B : Nat} {a w : World} (h : Below B a w) (n : Nat) : Below B a (w.drewN n) := ⟨h.os, h.tape, h.output, h.size, h.block⟩
set_option maxRecDepth 100000 in
set_option maxHeartbeats 1000000 in
theorem cGaps (w : World) (v : Value) (l : List Rng.R) (h : RdR w v l) (hn : l.length < 1000000) : Calls Try.prog 101 #[v] w fun e w' => e = .returned (.bool (Fil.gapsB l)) ∧ Below w.heap.size w w' := by
  obtain ⟨a, cap, rfl, hcap, hx⟩ := h
  have HX := hid hx
  have HG := hid (show Fil.gapsB l = (Fil.gapsGo true (-1) l && Fil.withinB l.length 1 16) from rfl)
  clear hx hcap
  go_enter Try.func101, Try.ntmps101
  go_wp2_with fail
  go_loopw [3, 8] (fun z i wr => ∃ (k : Nat) (last : Int), k ≤ l.length ∧ i = .int .i64 k ∧ z = .int .i64 last ∧ Fil.gapsGo true (-1) l = Fil.gapsGo (k == 0) last (l.drop k) ∧ Below w.heap.size w wr) (fun _ i _ => l.length - (intOf i).toNat)
  case atStart => exact ⟨0, -1, by omega, rfl, rfl, rfl, Below.refl _ _⟩
  case round =>
    obtain ⟨k, last, hk, rfl, rfl, hgo, hbel⟩ := hrel
    have HGO := hid hgo
    have HB := hid hbel
    clear hgo hbel
    by_cases hlt : k < l.length
    · obtain ⟨b, off, rfl, hb, c0, c1⟩ := HX.out k hlt
      rw [← HB.out.cell hb] at c0 c1
      have hdr : l.drop k = l[k] :: l.drop (k + 1) := List.drop_eq_getElem_cons hlt
      rw [hdr] at HGO
      have hBA := hid (HB.out.alloc HB.out.size)
      clear hdr
      obtain ⟨x, hx⟩ : ∃ x, x = l[k] := ⟨_, rfl⟩
      rw [← hx] at c0 c1 HGO
      clear hx
      obtain ⟨f, t⟩ := x
      simp only [] at c0 c1
      by_cases h0 : k = 0 ∧ f = 0 ∧ t = 0
      · obtain ⟨rfl, rfl, rfl⟩ := h0
        have HN : Hid (Fil.gapsGo true (-1) l = Fil.gapsGo (1 == 0) last (l.drop 1)) := hid (by rw [HGO.out]; simp [Fil.gapsGo])
        simp only [Nat.zero_mul, Nat.add_zero] at c0 c1
        go_wp2_with fail
        go_roundw
        case rel => exact ⟨1, last, by omega, by go_num, rfl, HN.out, hBA.out _⟩
        case measure => simp [intOf]; omega
      · have h0' : k = 0 ∧ (f == 0) = true ∧ (t == 0) = false ∨ k = 0 ∧ (f == 0) = false ∨ ((k : Int) == 0) = false := by
          by_cases q1 : k = 0
          · by_cases q2 : f = 0
            · exact Or.inl ⟨q1, by simpa using q2, by simpa using fun h => h0 ⟨q1, q2, h⟩⟩
            · exact Or.inr (Or.inl ⟨q1, by simpa using q2⟩)
          · exact Or.inr (Or.inr (by simpa using q1))
        have HN : Hid (Fil.gapsGo true (-1) l = if f ≤ last ∨ f < 0 ∨ t ≤ f ∨ 65536 < t then false else Fil.gapsGo false t (l.drop (k + 1))) := by
          refine hid ?_
          rw [HGO.out]
          show (if (k == 0) = true ∧ (f, t) = (0, 0) then _ else _) = _
          rw [if_neg]
          rintro ⟨q1, q2⟩
          injection q2 with q2 q3
          exact h0 ⟨by simpa using q1, q2, q3⟩
        clear h0
        have hb4 : decide (f ≤ last) = true ∨ (decide (f ≤ last) = false ∧ decide (f < 0) = true) ∨ (decide (f ≤ last) = false ∧ decide (f < 0) = false ∧ decide (t ≤ f) = true) ∨ (decide (f ≤ last) = false ∧ decide (f < 0) = false ∧ decide (t ≤ f) = false ∧ decide (65536 < t) = true) ∨
            (decide (f ≤ last) = false ∧ decide (f < 0) = false ∧ decide (t ≤ f) = false ∧ decide (65536 < t) = false) := by
          simp only [decide_eq_true_eq, decide_eq_false_iff_not]; omega
        have HNO : Hid (Fil.gapsGo true (-1) l = if f ≤ last ∨ f < 0 ∨ t ≤ f ∨ 65536 < t then false else Fil.gapsGo false t (l.drop (k + 1))) := HN
        rcases hb4 with p | ⟨p, p2⟩ | ⟨p, p2, p3⟩ | ⟨p, p2, p3, p4⟩ | ⟨p, p2, p3, p4⟩
        · have HF : Hid (Fil.gapsGo true (-1) l = false) := hid (by rw [HN.out, if_pos (by simp only [decide_eq_true_eq, decide_eq_false_iff_not] at *; omega)])
          clear HN HNO HGO
          rcases h0' with ⟨rfl, q1, q2⟩ | ⟨rfl, q1⟩ | q1
          all_goals
            try simp only [Nat.zero_mul, Nat.add_zero] at c0 c1
            go_wp2_with fail
            go_ret
            exact ⟨ret_bool (by rw [HG.out, HF.out]; rfl), hBA.out _⟩
        · have HF : Hid (Fil.gapsGo true (-1) l = false) := hid (by rw [HN.out, if_pos (by simp only [decide_eq_true_eq, decide_eq_false_iff_not] at *; omega)])
          clear HN HNO HGO
          rcases h0' with ⟨rfl, q1, q2⟩ | ⟨rfl, q1⟩ | q1
          all_goals
            try simp only [Nat.zero_mul, Nat.add_zero] at c0 c1
            go_wp2_with fail
            go_ret
            exact ⟨ret_bool (by rw [HG.out, HF.out]; rfl), hBA.out _⟩
        · have HF : Hid (Fil.gapsGo true (-1) l = false) := hid (by rw [HN.out, if_pos (by simp only [decide_eq_true_eq, decide_eq_false_iff_not] at *; omega)])
          clear HN HNO HGO
          rcases h0' with ⟨rfl, q1, q2⟩ | ⟨rfl, q1⟩ | q1
          all_goals
            try simp only [Nat.zero_mul, Nat.add_zero] at c0 c1
            go_wp2_with fail
            go_ret
            exact ⟨ret_bool (by rw [HG.out, HF.out]; rfl), hBA.out _⟩
        · have HF : Hid (Fil.gapsGo true (-1) l = false) := hid (by rw [HN.out, if_pos (by simp only [decide_eq_true_eq, decide_eq_false_iff_not] at *; omega)])
          clear HN HNO HGO
          rcases h0' with ⟨rfl, q1, q2⟩ | ⟨rfl, q1⟩ | q1
          all_goals
            try simp only [Nat.zero_mul, Nat.add_zero] at c0 c1
            go_wp2_with fail
            go_ret
            exact ⟨ret_bool (by rw [HG.out, HF.out]; rfl), hBA.out _⟩
        · have HF : Hid (Fil.gapsGo true (-1) l = Fil.gapsGo false t (l.drop (k + 1))) := hid (by rw [HN.out, if_neg (by simp only [decide_eq_true_eq, decide_eq_false_iff_not] at *; omega)])
          clear HN HNO HGO
          rcases h0' with ⟨rfl, q1, q2⟩ | ⟨rfl, q1⟩ | q1
          · try simp only [Nat.zero_mul, Nat.add_zero] at c0 c1
            go_wp2_with fail
            go_roundw
            case rel => exact ⟨1, t, by omega, by first | rfl | go_num, rfl, HF.out, hBA.out _⟩
            case measure => simp [intOf]; omega
          · try simp only [Nat.zero_mul, Nat.add_zero] at c0 c1
            go_wp2_with fail
            go_roundw
            case rel => exact ⟨1, t, by omega, by first | rfl | go_num, rfl, HF.out, hBA.out _⟩
            case measure => simp [intOf]; omega
          · try simp only [Nat.zero_mul, Nat.add_zero] at c0 c1
            go_wp2_with fail
            go_roundw
            case rel => exact ⟨k + 1, t, by omega, by first | rfl | go_num, rfl, HF.out, hBA.out _⟩
            case measure => simp [intOf]; omega
    · have e : l.drop k = [] := List.drop_eq_nil_of_le (by omega)
      rw [e] at HGO
      have HW := hid (cWithin)
      go_wp2_with fail
      refine (cWithin wr l.length 1 16).mono ?_
      rintro e w' ⟨rfl, rfl⟩
      go_wp2_with fail
      go_ret
      exact ⟨ret_bool (by rw [HG.out, HGO.out]; simp [Fil.gapsGo]), HB.out⟩
end Go.Proofs.Ytfjadhkhmhnccaa
