/- The units of the file protocol as values; the contracts of pdu's small functions. The contracts of pdu's name and empty. Slices of ranges; the contract of pdu's gaps. -/
import Derived.Test.YtgidckkcibplgaaGreatProg
import Derived.Test.YtgidckkcibplgaaGreatKeep
import Derived.Test.YtgidckkcibplgaaGreatSepc
import Derived.Test.YtgidckkcibplgaaGreatStr
import Derived.Test.YtgidckkcibplgaaGreatRngMath
import Derived.WalkKit
import Derived.BigQuiet
import Derived.Deep.QuietTactic
import Derived.Outline
set_option linter.unusedVariables false
set_option linter.unusedSimpArgs false
namespace Fil
open Go
/-- A unit: its data and its gaps lie in slices. -/
structure Pdu where
  kind : Int := 0
  src : Int := 0
  num : Int := 0
  cls : Int := 0
  name : ByteArray := ⟨#[]⟩
  size : Int := 0
  off : Int := 0
  da : Option Addr := none
  data : List Nat := []
  dc : Nat := 0
  sum : Nat := 0
  code : Int := 0
  ga : Option Addr := none
  gaps : List Rng.R := []
  gc : Nat := 0
def Pdu.cells (p : Pdu) : Array Value := #[.int .i64 p.kind, .int .i64 p.src, .int .i64 p.num, .int .i64 p.cls, .string p.name, .int .i64 p.size, .int .i64 p.off, .slice p.da p.data.length p.dc, .int .u32 (p.sum : Nat), .int .i64 p.code, .slice p.ga p.gaps.length p.gc]
def withinB (n a b : Int) : Bool := decide (a ≤ n) && decide (n ≤ b)
def nameB (s : ByteArray) : Bool := s.data.toList.all (fun c => decide (33 ≤ c.toNat) && decide (c.toNat ≤ 126)) && decide (1 ≤ s.size) && decide (s.size ≤ 64)
/-- Without the fields that its kind uses. -/
def Pdu.rest (p : Pdu) : Pdu :=
  if p.kind = 1 then { p with cls := 0, size := 0, name := ⟨#[]⟩ }
  else if p.kind = 2 then { p with off := 0, da := none, data := [], dc := 0 }
  else if p.kind = 3 then { p with cls := 0, size := 0, sum := 0, code := 0 }
  else if p.kind = 4 then { p with ga := none, gaps := [], gc := 0 }
  else if p.kind = 5 then { p with code := 0 }
  else p
def Pdu.emptyB (p : Pdu) : Bool := (p.cls == 0) && p.name.toList.isEmpty && (p.size == 0) && (p.off == 0) && decide (p.data.length = 0) && decide (p.sum = 0) && (p.code == 0) && decide (p.gaps.length = 0)
end Fil
namespace Go.Proofs.YtgidckkcibplgaaGreat
open Go.RowKit Go.Proofs.Num
theorem cWithin (w : World) (n a b : Int) : Calls Tryz.prog 112 #[.int .i64 n, .int .i64 a, .int .i64 b] w fun e w' => e = .returned (.bool (Fil.withinB n a b)) ∧ w = w' := by
  unfold Fil.withinB
  by_cases h1 : a ≤ n
  · have d1 : decide (a ≤ n) = true := decide_eq_true h1
    rw [d1, Bool.true_and]
    go_enter Tryz.func112, Tryz.ntmps112
    go_wp2_with fail
    go_ret
    exact ⟨rfl, rfl⟩
  · have d1 : decide (a ≤ n) = false := decide_eq_false h1
    rw [d1, Bool.false_and]
    go_enter Tryz.func112, Tryz.ntmps112
    go_wp2_with fail
    go_ret
    exact ⟨rfl, rfl⟩
set_option maxRecDepth 100000 in
theorem cRest (w : World) (p : Fil.Pdu) : Calls Tryz.prog 114 #[.agg p.cells] w fun e w' => e = .returned (.agg p.rest.cells) ∧ Below w.heap.size w w' := by
  obtain ⟨kind, src, num, cls, name, size, off, da, data, dc, sum, code, ga, gaps, gc⟩ := p
  by_cases k1 : kind = 1
  · subst k1
    have hq : (Fil.Pdu.rest ⟨1, src, num, cls, name, size, off, da, data, dc, sum, code, ga, gaps, gc⟩).cells = #[.int .i64 1, .int .i64 src, .int .i64 num, .int .i64 0, .string ⟨#[]⟩, .int .i64 0, .int .i64 off, .slice da data.length dc, .int .u32 (sum : Nat), .int .i64 code, .slice ga gaps.length gc] := by simp [Fil.Pdu.rest, Fil.Pdu.cells]
    rw [hq]
    clear hq
    unfold Fil.Pdu.cells
    simp only []
    generalize data.length = dl
    generalize gaps.length = gl
    go_enter Tryz.func114, Tryz.ntmps114
    go_wp2_with fail
    exact bodyPost_ret (v := .agg #[.int .i64 1, .int .i64 src, .int .i64 num, .int .i64 0, .string ⟨#[]⟩, .int .i64 0, .int .i64 off, .slice da dl dc, .int .u32 (sum : Nat), .int .i64 code, .slice ga gl gc]) (by simp [results, Tryz.results114, go_sem]) rfl ⟨rfl, ((Below.refl _ _).alloc (Nat.le_refl _) _).alloc (by simp) _⟩
  · -- not 1
    by_cases k2 : kind = 2
    · subst k2
      have hq : (Fil.Pdu.rest ⟨2, src, num, cls, name, size, off, da, data, dc, sum, code, ga, gaps, gc⟩).cells = #[.int .i64 2, .int .i64 src, .int .i64 num, .int .i64 cls, .string name, .int .i64 size, .int .i64 0, .slice none 0 0, .int .u32 (sum : Nat), .int .i64 code, .slice ga gaps.length gc] := by simp [Fil.Pdu.rest, Fil.Pdu.cells]
      rw [hq]
      clear hq
      unfold Fil.Pdu.cells
      simp only []
      generalize data.length = dl
      generalize gaps.length = gl
      go_enter Tryz.func114, Tryz.ntmps114
      go_wp2_with fail
      exact bodyPost_ret (v := .agg #[.int .i64 2, .int .i64 src, .int .i64 num, .int .i64 cls, .string name, .int .i64 size, .int .i64 0, .slice none 0 0, .int .u32 (sum : Nat), .int .i64 code, .slice ga gl gc]) (by simp [results, Tryz.results114, go_sem]) rfl ⟨rfl, ((Below.refl _ _).alloc (Nat.le_refl _) _).alloc (by simp) _⟩
    · -- not 2
      by_cases k3 : kind = 3
      · subst k3
        have hq : (Fil.Pdu.rest ⟨3, src, num, cls, name, size, off, da, data, dc, sum, code, ga, gaps, gc⟩).cells = #[.int .i64 3, .int .i64 src, .int .i64 num, .int .i64 0, .string name, .int .i64 0, .int .i64 off, .slice da data.length dc, .int .u32 0, .int .i64 0, .slice ga gaps.length gc] := by simp [Fil.Pdu.rest, Fil.Pdu.cells]
        rw [hq]
        clear hq
        unfold Fil.Pdu.cells
        simp only []
        generalize data.length = dl
        generalize gaps.length = gl
        go_enter Tryz.func114, Tryz.ntmps114
        go_wp2_with fail
        exact bodyPost_ret (v := .agg #[.int .i64 3, .int .i64 src, .int .i64 num, .int .i64 0, .string name, .int .i64 0, .int .i64 off, .slice da dl dc, .int .u32 0, .int .i64 0, .slice ga gl gc]) (by simp [results, Tryz.results114, go_sem]) rfl ⟨rfl, ((Below.refl _ _).alloc (Nat.le_refl _) _).alloc (by simp) _⟩
      · -- not 3
        by_cases k4 : kind = 4
        · subst k4
          have hq : (Fil.Pdu.rest ⟨4, src, num, cls, name, size, off, da, data, dc, sum, code, ga, gaps, gc⟩).cells = #[.int .i64 4, .int .i64 src, .int .i64 num, .int .i64 cls, .string name, .int .i64 size, .int .i64 off, .slice da data.length dc, .int .u32 (sum : Nat), .int .i64 code, .slice none 0 0] := by simp [Fil.Pdu.rest, Fil.Pdu.cells]
          rw [hq]
          clear hq
          unfold Fil.Pdu.cells
          simp only []
          generalize data.length = dl
          generalize gaps.length = gl
          go_enter Tryz.func114, Tryz.ntmps114
          go_wp2_with fail
          exact bodyPost_ret (v := .agg #[.int .i64 4, .int .i64 src, .int .i64 num, .int .i64 cls, .string name, .int .i64 size, .int .i64 off, .slice da dl dc, .int .u32 (sum : Nat), .int .i64 code, .slice none 0 0]) (by simp [results, Tryz.results114, go_sem]) rfl ⟨rfl, ((Below.refl _ _).alloc (Nat.le_refl _) _).alloc (by simp) _⟩
        · -- not 4
          by_cases k5 : kind = 5
          · subst k5
            have hq : (Fil.Pdu.rest ⟨5, src, num, cls, name, size, off, da, data, dc, sum, code, ga, gaps, gc⟩).cells = #[.int .i64 5, .int .i64 src, .int .i64 num, .int .i64 cls, .string name, .int .i64 size, .int .i64 off, .slice da data.length dc, .int .u32 (sum : Nat), .int .i64 0, .slice ga gaps.length gc] := by simp [Fil.Pdu.rest, Fil.Pdu.cells]
            rw [hq]
            clear hq
            unfold Fil.Pdu.cells
            simp only []
            generalize data.length = dl
            generalize gaps.length = gl
            go_enter Tryz.func114, Tryz.ntmps114
            go_wp2_with fail
            exact bodyPost_ret (v := .agg #[.int .i64 5, .int .i64 src, .int .i64 num, .int .i64 cls, .string name, .int .i64 size, .int .i64 off, .slice da dl dc, .int .u32 (sum : Nat), .int .i64 0, .slice ga gl gc]) (by simp [results, Tryz.results114, go_sem]) rfl ⟨rfl, ((Below.refl _ _).alloc (Nat.le_refl _) _).alloc (by simp) _⟩
          · -- not 5
            have hq : (Fil.Pdu.rest ⟨kind, src, num, cls, name, size, off, da, data, dc, sum, code, ga, gaps, gc⟩).cells = #[.int .i64 kind, .int .i64 src, .int .i64 num, .int .i64 cls, .string name, .int .i64 size, .int .i64 off, .slice da data.length dc, .int .u32 (sum : Nat), .int .i64 code, .slice ga gaps.length gc] := by simp [Fil.Pdu.rest, Fil.Pdu.cells, k1, k2, k3, k4, k5]
            rw [hq]
            clear hq
            have b1 : (kind == 1) = false := by simpa using k1
            have b2 : (kind == 2) = false := by simpa using k2
            have b3 : (kind == 3) = false := by simpa using k3
            have b4 : (kind == 4) = false := by simpa using k4
            have b5 : (kind == 5) = false := by simpa using k5
            unfold Fil.Pdu.cells
            simp only []
            generalize data.length = dl
            generalize gaps.length = gl
            go_enter Tryz.func114, Tryz.ntmps114
            go_wp2_with fail
            exact bodyPost_ret (v := .agg #[.int .i64 kind, .int .i64 src, .int .i64 num, .int .i64 cls, .string name, .int .i64 size, .int .i64 off, .slice da dl dc, .int .u32 (sum : Nat), .int .i64 code, .slice ga gl gc]) (by simp [results, Tryz.results114, go_sem]) rfl ⟨rfl, ((Below.refl _ _).alloc (Nat.le_refl _) _).alloc (by simp) _⟩
end Go.Proofs.YtgidckkcibplgaaGreat
namespace Go.Proofs.YtgidckkcibplgaaGreat
open Go.RowKit Go.Proofs.Num
def chB (c : UInt8) : Bool := decide (33 ≤ c.toNat) && decide (c.toNat ≤ 126)
theorem all_take (l : List UInt8) (k : Nat) (h : k < l.length) : (l.take (k + 1)).all chB = ((l.take k).all chB && chB l[k]) := by
  rw [List.take_succ_eq_append_getElem h, List.all_append]; simp
theorem all_false (l : List UInt8) (k : Nat) (h : k < l.length) (hc : chB l[k] = false) : l.all chB = false := by
  rw [List.all_eq_false]; exact ⟨l[k], List.getElem_mem h, by rw [hc]; simp⟩
set_option maxRecDepth 100000 in
theorem cName (w : World) (s : ByteArray) (hs : s.size ≤ 1000000) : Calls Tryz.prog 115 #[.string s] w fun e w' => e = .returned (.bool (Fil.nameB s)) ∧ w = w' := by
  have hN : Fil.nameB s = (s.data.toList.all chB && Fil.withinB s.size 1 64) := by
    unfold Fil.nameB Fil.withinB
    rw [Bool.and_assoc]
    congr 2
    · simp only [decide_eq_decide]; omega
    · simp only [decide_eq_decide]; omega
  have HN := hid hN
  clear hN
  go_enter Tryz.func115, Tryz.ntmps115
  go_wp2_with fail
  go_loop [6] (fun i => ∃ k : Nat, k ≤ s.size ∧ i = .int .i64 k ∧ (s.data.toList.take k).all chB = true) (fun i => s.size - (intOf i).toNat)
  case atStart => exact ⟨0, Nat.zero_le _, rfl, rfl⟩
  case round =>
    obtain ⟨k, hk, rfl, hall⟩ := hrel
    have HA := hid hall
    clear hall
    by_cases hlt : k < s.size
    · have hl : k < s.data.toList.length := by simpa using hlt
      have hg : s.data.toList[k] = s[k] := rfl
      have hst := all_take s.data.toList k hl
      have hfl := all_false s.data.toList k hl
      rw [hg] at hst hfl
      have HST := hid hst
      have HFL := hid hfl
      clear hst hfl hg
      by_cases hc : 33 ≤ s[k].toNat ∧ s[k].toNat ≤ 126
      · have hcb : chB s[k] = true := by unfold chB; simp [hc]
        have HC := hid hcb
        have q1 : decide ((s[k].toNat : Int) < 33) = false := decide_eq_false (by omega)
        have q2 : decide (126 < (s[k].toNat : Int)) = false := decide_eq_false (by omega)
        clear hc hcb
        go_wp2_with fail
        go_round
        case rel => exact ⟨k + 1, by omega, by go_num, by rw [HST.out, HA.out, HC.out]; rfl⟩
        case measure => simp [intOf]; omega
      · have hcb : chB s[k] = false := by
          unfold chB
          by_cases q : 33 ≤ s[k].toNat
          · have : ¬ s[k].toNat ≤ 126 := fun h => hc ⟨q, h⟩
            simp [this]
          · simp [q]
        have HC := hid (HFL.out hcb)
        have q' : decide ((s[k].toNat : Int) < 33) = true ∨ (decide ((s[k].toNat : Int) < 33) = false ∧ decide (126 < (s[k].toNat : Int)) = true) := by
          simp only [decide_eq_true_eq, decide_eq_false_iff_not]; omega
        clear hc hcb
        rcases q' with q | ⟨q, q2⟩
        all_goals
          go_wp2_with fail
          go_ret
          exact ⟨ret_bool (by rw [HN.out, HC.out]; rfl), rfl⟩
    · have e : s.data.toList.take k = s.data.toList := List.take_of_length_le (by simp; omega)
      rw [e] at HA
      have HW := hid (cWithin w s.size 1 64)
      go_wp2_with fail
      refine HW.out.mono ?_
      rintro e w' ⟨rfl, rfl⟩
      go_wp2_with fail
      go_ret
      exact ⟨ret_bool (by rw [HN.out, HA.out, Bool.true_and]), rfl⟩
set_option maxRecDepth 100000 in
theorem cEmpty (w : World) (p : Fil.Pdu) : Calls Tryz.prog 113 #[.agg p.cells] w fun e w' => e = .returned (.bool p.emptyB) ∧ Below w.heap.size w w' := by
  obtain ⟨kind, src, num, cls, name, size, off, da, data, dc, sum, code, ga, gaps, gc⟩ := p
  have hE : Fil.Pdu.emptyB ⟨kind, src, num, cls, name, size, off, da, data, dc, sum, code, ga, gaps, gc⟩ = ((cls == 0) && name.toList.isEmpty && (size == 0) && (off == 0) && decide (data.length = 0) && decide (sum = 0) && (code == 0) && decide (gaps.length = 0)) := rfl
  rw [hE]
  clear hE
  unfold Fil.Pdu.cells
  simp only []
  generalize data.length = dl
  generalize gaps.length = gl
  have s5 : decide (dl = 0) = ((dl : Int) == 0) := by rw [Bool.eq_iff_iff]; simp
  have s6 : decide (sum = 0) = ((sum : Int) == 0) := by rw [Bool.eq_iff_iff]; simp
  have s8 : decide (gl = 0) = ((gl : Int) == 0) := by rw [Bool.eq_iff_iff]; simp
  rw [s5, s6, s8]
  clear s5 s6 s8
  rcases Bool.eq_false_or_eq_true (cls == 0) with h1 | h1
  all_goals (rw [h1]; simp only [Bool.true_and, Bool.false_and])
  · rcases Bool.eq_false_or_eq_true name.toList.isEmpty with h2 | h2
    all_goals (rw [h2]; simp only [Bool.true_and, Bool.false_and])
    · rcases Bool.eq_false_or_eq_true (size == 0) with h3 | h3
      all_goals (rw [h3]; simp only [Bool.true_and, Bool.false_and])
      · rcases Bool.eq_false_or_eq_true (off == 0) with h4 | h4
        all_goals (rw [h4]; simp only [Bool.true_and, Bool.false_and])
        · rcases Bool.eq_false_or_eq_true ((dl : Int) == 0) with h5 | h5
          all_goals (rw [h5]; simp only [Bool.true_and, Bool.false_and])
          · rcases Bool.eq_false_or_eq_true ((sum : Int) == 0) with h6 | h6
            all_goals (rw [h6]; simp only [Bool.true_and, Bool.false_and])
            · rcases Bool.eq_false_or_eq_true (code == 0) with h7 | h7
              all_goals (rw [h7]; simp only [Bool.true_and, Bool.false_and])
              all_goals
                go_enter Tryz.func113, Tryz.ntmps113
                go_wp2_with fail
                go_ret
                exact ⟨rfl, (Below.refl _ _).alloc (Nat.le_refl _) _⟩
            · go_enter Tryz.func113, Tryz.ntmps113
              go_wp2_with fail
              go_ret
              exact ⟨rfl, (Below.refl _ _).alloc (Nat.le_refl _) _⟩
          · go_enter Tryz.func113, Tryz.ntmps113
            go_wp2_with fail
            go_ret
            exact ⟨rfl, (Below.refl _ _).alloc (Nat.le_refl _) _⟩
        · go_enter Tryz.func113, Tryz.ntmps113
          go_wp2_with fail
          go_ret
          exact ⟨rfl, (Below.refl _ _).alloc (Nat.le_refl _) _⟩
      · go_enter Tryz.func113, Tryz.ntmps113
        go_wp2_with fail
        go_ret
        exact ⟨rfl, (Below.refl _ _).alloc (Nat.le_refl _) _⟩
    · go_enter Tryz.func113, Tryz.ntmps113
      go_wp2_with fail
      go_ret
      exact ⟨rfl, (Below.refl _ _).alloc (Nat.le_refl _) _⟩
  · go_enter Tryz.func113, Tryz.ntmps113
    go_wp2_with fail
    go_ret
    exact ⟨rfl, (Below.refl _ _).alloc (Nat.le_refl _) _⟩
end Go.Proofs.YtgidckkcibplgaaGreat
namespace Fil
def gapsGo (first : Bool) (last : Int) : List Rng.R → Bool
  | [] => true
  | g :: l => if first = true ∧ g = (0, 0) then gapsGo false last l else if g.1 ≤ last ∨ g.1 < 0 ∨ g.2 ≤ g.1 ∨ 65536 < g.2 then false else gapsGo false g.2 l
def gapsB (l : List Rng.R) : Bool := gapsGo true (-1) l && withinB l.length 1 16
end Fil
namespace Go.Proofs.YtgidckkcibplgaaGreat
open Go.RowKit Go.Proofs.Num
/-- The slice v reads as the ranges l. -/
def RdR (w : World) (v : Value) (l : List Rng.R) : Prop := ∃ a cap, v = .slice a l.length cap ∧ (l.length ≤ cap ∧ cap ≤ maxLen) ∧ ∀ j, (h : j < l.length) → ∃ b off, a = some ⟨b, off, none⟩ ∧ b < w.heap.size ∧
  w.cell? ⟨b, off + j * 2, none⟩ = some (.int .i64 l[j].1) ∧ w.cell? ⟨b, off + j * 2 + 1, none⟩ = some (.int .i64 l[j].2)
theorem RdR.below {w w' : World} {v : Value} {l : List Rng.R} (h : RdR w v l) (k : Below w.heap.size w w') : RdR w' v l := by
  obtain ⟨a, cap, h1, h2, h3⟩ := h
  refine ⟨a, cap, h1, h2, fun j hj => ?_⟩
  obtain ⟨b, off, g1, g2, g3, g4⟩ := h3 j hj
  exact ⟨b, off, g1, by have := k.size; omega, by rw [k.cell g2]; exact g3, by rw [k.cell g2]; exact g4⟩
theorem below_drewN {B : Nat} {a w : World} (h : Below B a w) (n : Nat) : Below B a (w.drewN n) := ⟨h.os, h.tape, h.output, h.size, h.block⟩
set_option maxRecDepth 100000 in
set_option maxHeartbeats 1000000 in
theorem cGaps (w : World) (v : Value) (l : List Rng.R) (h : RdR w v l) (hn : l.length < 1000000) : Calls Tryz.prog 116 #[v] w fun e w' => e = .returned (.bool (Fil.gapsB l)) ∧ Below w.heap.size w w' := by
  obtain ⟨a, cap, rfl, hcap, hx⟩ := h
  have HX := hid hx
  have HG := hid (show Fil.gapsB l = (Fil.gapsGo true (-1) l && Fil.withinB l.length 1 16) from rfl)
  clear hx hcap
  go_enter Tryz.func116, Tryz.ntmps116
  go_wp2_with fail
  go_loopw [3, 8] (fun z i wr => ∃ (k : Nat) (last : Int), k ≤ l.length ∧ i = .int .i64 k ∧ z = .int .i64 last ∧ Fil.gapsGo true (-1) l = Fil.gapsGo (k == 0) last (l.drop k) ∧ Below w.heap.size w wr) (fun _ i _ => l.length - (intOf i).toNat)
  case atStart => exact ⟨0, -1, by omega, rfl, rfl, rfl, Below.refl _ _⟩
  case round =>
    obtain ⟨k, last, hk, rfl, rfl, hgo, hbel⟩ := hrel
    have HGO := hid hgo
    have HB := hid hbel
    clear hgo hbel
    by_cases hlt : k < l.length
    · obtain ⟨b, off, rfl, hb, c0, c1⟩ := HX.out k hlt
      rw [← HB.out.cell hb] at c0 c1
      have hdr : l.drop k = l[k] :: l.drop (k + 1) := List.drop_eq_getElem_cons hlt
      rw [hdr] at HGO
      have hBA := hid (HB.out.alloc HB.out.size)
      clear hdr
      obtain ⟨x, hx⟩ : ∃ x, x = l[k] := ⟨_, rfl⟩
      rw [← hx] at c0 c1 HGO
      clear hx
      obtain ⟨f, t⟩ := x
      simp only [] at c0 c1
      by_cases h0 : k = 0 ∧ f = 0 ∧ t = 0
      · obtain ⟨rfl, rfl, rfl⟩ := h0
        have HN : Hid (Fil.gapsGo true (-1) l = Fil.gapsGo (1 == 0) last (l.drop 1)) := hid (by rw [HGO.out]; simp [Fil.gapsGo])
        simp only [Nat.zero_mul, Nat.add_zero] at c0 c1
        go_wp2_with fail
        go_roundw
        case rel => exact ⟨1, last, by omega, by go_num, rfl, HN.out, hBA.out _⟩
        case measure => simp [intOf]; omega
      · have h0' : k = 0 ∧ (f == 0) = true ∧ (t == 0) = false ∨ k = 0 ∧ (f == 0) = false ∨ ((k : Int) == 0) = false := by
          by_cases q1 : k = 0
          · by_cases q2 : f = 0
            · exact Or.inl ⟨q1, by simpa using q2, by simpa using fun h => h0 ⟨q1, q2, h⟩⟩
            · exact Or.inr (Or.inl ⟨q1, by simpa using q2⟩)
          · exact Or.inr (Or.inr (by simpa using q1))
        have HN : Hid (Fil.gapsGo true (-1) l = if f ≤ last ∨ f < 0 ∨ t ≤ f ∨ 65536 < t then false else Fil.gapsGo false t (l.drop (k + 1))) := by
          refine hid ?_
          rw [HGO.out]
          show (if (k == 0) = true ∧ (f, t) = (0, 0) then _ else _) = _
          rw [if_neg]
          rintro ⟨q1, q2⟩
          injection q2 with q2 q3
          exact h0 ⟨by simpa using q1, q2, q3⟩
        clear h0
        have hb4 : decide (f ≤ last) = true ∨ (decide (f ≤ last) = false ∧ decide (f < 0) = true) ∨ (decide (f ≤ last) = false ∧ decide (f < 0) = false ∧ decide (t ≤ f) = true) ∨ (decide (f ≤ last) = false ∧ decide (f < 0) = false ∧ decide (t ≤ f) = false ∧ decide (65536 < t) = true) ∨
            (decide (f ≤ last) = false ∧ decide (f < 0) = false ∧ decide (t ≤ f) = false ∧ decide (65536 < t) = false) := by
          simp only [decide_eq_true_eq, decide_eq_false_iff_not]; omega
        have HNO : Hid (Fil.gapsGo true (-1) l = if f ≤ last ∨ f < 0 ∨ t ≤ f ∨ 65536 < t then false else Fil.gapsGo false t (l.drop (k + 1))) := HN
        rcases hb4 with p | ⟨p, p2⟩ | ⟨p, p2, p3⟩ | ⟨p, p2, p3, p4⟩ | ⟨p, p2, p3, p4⟩
        · have HF : Hid (Fil.gapsGo true (-1) l = false) := hid (by rw [HN.out, if_pos (by simp only [decide_eq_true_eq, decide_eq_false_iff_not] at *; omega)])
          clear HN HNO HGO
          rcases h0' with ⟨rfl, q1, q2⟩ | ⟨rfl, q1⟩ | q1
          all_goals
            try simp only [Nat.zero_mul, Nat.add_zero] at c0 c1
            go_wp2_with fail
            go_ret
            exact ⟨ret_bool (by rw [HG.out, HF.out]; rfl), hBA.out _⟩
        · have HF : Hid (Fil.gapsGo true (-1) l = false) := hid (by rw [HN.out, if_pos (by simp only [decide_eq_true_eq, decide_eq_false_iff_not] at *; omega)])
          clear HN HNO HGO
          rcases h0' with ⟨rfl, q1, q2⟩ | ⟨rfl, q1⟩ | q1
          all_goals
            try simp only [Nat.zero_mul, Nat.add_zero] at c0 c1
            go_wp2_with fail
            go_ret
            exact ⟨ret_bool (by rw [HG.out, HF.out]; rfl), hBA.out _⟩
        · have HF : Hid (Fil.gapsGo true (-1) l = false) := hid (by rw [HN.out, if_pos (by simp only [decide_eq_true_eq, decide_eq_false_iff_not] at *; omega)])
          clear HN HNO HGO
          rcases h0' with ⟨rfl, q1, q2⟩ | ⟨rfl, q1⟩ | q1
          all_goals
            try simp only [Nat.zero_mul, Nat.add_zero] at c0 c1
            go_wp2_with fail
            go_ret
            exact ⟨ret_bool (by rw [HG.out, HF.out]; rfl), hBA.out _⟩
        · have HF : Hid (Fil.gapsGo true (-1) l = false) := hid (by rw [HN.out, if_pos (by simp only [decide_eq_true_eq, decide_eq_false_iff_not] at *; omega)])
          clear HN HNO HGO
          rcases h0' with ⟨rfl, q1, q2⟩ | ⟨rfl, q1⟩ | q1
          all_goals
            try simp only [Nat.zero_mul, Nat.add_zero] at c0 c1
            go_wp2_with fail
            go_ret
            exact ⟨ret_bool (by rw [HG.out, HF.out]; rfl), hBA.out _⟩
        · have HF : Hid (Fil.gapsGo true (-1) l = Fil.gapsGo false t (l.drop (k + 1))) := hid (by rw [HN.out, if_neg (by simp only [decide_eq_true_eq, decide_eq_false_iff_not] at *; omega)])
          clear HN HNO HGO
          rcases h0' with ⟨rfl, q1, q2⟩ | ⟨rfl, q1⟩ | q1
          · try simp only [Nat.zero_mul, Nat.add_zero] at c0 c1
            go_wp2_with fail
            go_roundw
            case rel => exact ⟨1, t, by omega, by first | rfl | go_num, rfl, HF.out, hBA.out _⟩
            case measure => simp [intOf]; omega
          · try simp only [Nat.zero_mul, Nat.add_zero] at c0 c1
            go_wp2_with fail
            go_roundw
            case rel => exact ⟨1, t, by omega, by first | rfl | go_num, rfl, HF.out, hBA.out _⟩
            case measure => simp [intOf]; omega
          · try simp only [Nat.zero_mul, Nat.add_zero] at c0 c1
            go_wp2_with fail
            go_roundw
            case rel => exact ⟨k + 1, t, by omega, by first | rfl | go_num, rfl, HF.out, hBA.out _⟩
            case measure => simp [intOf]; omega
    · have e : l.drop k = [] := List.drop_eq_nil_of_le (by omega)
      rw [e] at HGO
      have HW := hid (cWithin)
      go_wp2_with fail
      refine (cWithin wr l.length 1 16).mono ?_
      rintro e w' ⟨rfl, rfl⟩
      go_wp2_with fail
      go_ret
      exact ⟨ret_bool (by rw [HG.out, HGO.out]; simp [Fil.gapsGo]), HB.out⟩
end Go.Proofs.YtgidckkcibplgaaGreat
