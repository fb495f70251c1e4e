/- The units of the file protocol as values; the contracts of pdu's small functions. -/
import Derived.Test.YtfjadhkhmhnccaaProg
import Derived.Test.YtfjadhkhmhnccaaNum
import Derived.Test.YtfjadhkhmhnccaaSepb
import Derived.Test.YtfjadhkhmhnccaaStr
import Derived.Test.YtfjadhkhmhnccaaRngMath
import Derived.WalkKit
import Derived.BigQuiet
import Derived.Deep.QuietTactic
set_option linter.unusedVariables false
set_option linter.unusedSimpArgs false
namespace Fil
open Go
/-- A unit: its data and its gaps lie in slices. -/
structure Pdu where
  kind : Int := 0
  src : Int := 0
  num : Int := 0
  cls : Int := 0
  name : ByteArray := ⟨#[]⟩
  size : Int := 0
  off : Int := 0
  da : Option Addr := none
  data : List Nat := []
  dc : Nat := 0
  sum : Nat := 0
  code : Int := 0
  ga : Option Addr := none
  gaps : List Rng.R := []
  gc : Nat := 0
def Pdu.cells (p : Pdu) : Array Value := #[.int .i64 p.kind, .int .i64 p.src, .int .i64 p.num, .int .i64 p.cls, .string p.name, .int .i64 p.size, .int .i64 p.off, .slice p.da p.data.length p.dc, .int .u32 (p.sum : Nat), .int .i64 p.code, .slice p.ga p.gaps.length p.gc]
def withinB (n a b : Int) : Bool := decide (a ≤ n) && decide (n ≤ b)
def nameB (s : ByteArray) : Bool := s.data.toList.all (fun c => decide (33 ≤ c.toNat) && decide (c.toNat ≤ 126)) && decide (1 ≤ s.size) && decide (s.size ≤ 64)
/-- Without the fields that its kind uses. -/
def Pdu.rest (p : Pdu) : Pdu :=
  if p.kind = 1 then { p with cls := 0, size := 0, name := ⟨#[]⟩ }
  else if p.kind = 2 then { p with off := 0, da := none, data := [], dc := 0 }
  else if p.kind = 3 then { p with cls := 0, size := 0, sum := 0, code := 0 }
  else if p.kind = 4 then { p with ga := none, gaps := [], gc := 0 }
  else if p.kind = 5 then { p with code := 0 }
  else p
def Pdu.emptyB (p : Pdu) : Bool := (p.cls == 0) && p.name.toList.isEmpty && (p.size == 0) && (p.off == 0) && decide (p.data.length = 0) && decide (p.sum = 0) && (p.code == 0) && decide (p.gaps.length = 0)
end Fil
namespace Go.Proofs.Ytfjadhkhmhnccaa
open Go.RowKit Go.Proofs.Num
theorem cWithin (w : World) (n a b : Int) : Calls Try.prog 97 #[.int .i64 n, .int .i64 a, .int .i64 b] w fun e w' => e = .returned (.bool (Fil.withinB n a b)) ∧ w = w' := by
  unfold Fil.withinB
  by_cases h1 : a ≤ n
  · have d1 : decide (a ≤ n) = true := decide_eq_true h1
    rw [d1, Bool.true_and]
    go_enter Try.func97, Try.ntmps97
    go_wp2_with fail
    go_ret
    exact ⟨rfl, rfl⟩
  · have d1 : decide (a ≤ n) = false := decide_eq_false h1
    rw [d1, Bool.false_and]
    go_enter Try.func97, Try.ntmps97
    go_wp2_with fail
    go_ret
    exact ⟨rfl, rfl⟩
set_option maxRecDepth 100000 in
theorem cRest (w : World) (p : Fil.Pdu) : Calls Try.prog 99 #[.agg p.cells] w fun e w' => e = .returned (.agg p.rest.cells) ∧ Below w.heap.size w w' := by
  obtain ⟨kind, src, num, cls, name, size, off, da, data, dc, sum, code, ga, gaps, gc⟩ := p
  by_cases k1 : kind = 1
  · subst k1
    have hq : (Fil.Pdu.rest ⟨1, src, num, cls, name, size, off, da, data, dc, sum, code, ga, gaps, gc⟩).cells = #[.int .i64 1, .int .i64 src, .int .i64 num, .int .i64 0, .string ⟨#[]⟩, .int .i64 0, .int .i64 off, .slice da data.length dc, .int .u32 (sum : Nat), .int .i64 code, .slice ga gaps.length gc] := by simp [Fil.Pdu.rest, Fil.Pdu.cells]
    rw [hq]
    clear hq
    unfold Fil.Pdu.cells
    simp only []
    generalize data.length = dl
    generalize gaps.length = gl
    go_enter Try.func99, Try.ntmps99
    go_wp2_with fail
    exact bodyPost_ret (v := .agg #[.int .i64 1, .int .i64 src, .int .i64 num, .int .i64 0, .string ⟨#[]⟩, .int .i64 0, .int .i64 off, .slice da dl dc, .int .u32 (sum : Nat), .int .i64 code, .slice ga gl gc]) (by simp [results, Try.results99, go_sem]) rfl ⟨rfl, ((Below.refl _ _).alloc (Nat.le_refl _) _).alloc (by simp) _⟩
  · -- not 1
    by_cases k2 : kind = 2
    · subst k2
      have hq : (Fil.Pdu.rest ⟨2, src, num, cls, name, size, off, da, data, dc, sum, code, ga, gaps, gc⟩).cells = #[.int .i64 2, .int .i64 src, .int .i64 num, .int .i64 cls, .string name, .int .i64 size, .int .i64 0, .slice none 0 0, .int .u32 (sum : Nat), .int .i64 code, .slice ga gaps.length gc] := by simp [Fil.Pdu.rest, Fil.Pdu.cells]
      rw [hq]
      clear hq
      unfold Fil.Pdu.cells
      simp only []
      generalize data.length = dl
      generalize gaps.length = gl
      go_enter Try.func99, Try.ntmps99
      go_wp2_with fail
      exact bodyPost_ret (v := .agg #[.int .i64 2, .int .i64 src, .int .i64 num, .int .i64 cls, .string name, .int .i64 size, .int .i64 0, .slice none 0 0, .int .u32 (sum : Nat), .int .i64 code, .slice ga gl gc]) (by simp [results, Try.results99, go_sem]) rfl ⟨rfl, ((Below.refl _ _).alloc (Nat.le_refl _) _).alloc (by simp) _⟩
    · -- not 2
      by_cases k3 : kind = 3
      · subst k3
        have hq : (Fil.Pdu.rest ⟨3, src, num, cls, name, size, off, da, data, dc, sum, code, ga, gaps, gc⟩).cells = #[.int .i64 3, .int .i64 src, .int .i64 num, .int .i64 0, .string name, .int .i64 0, .int .i64 off, .slice da data.length dc, .int .u32 0, .int .i64 0, .slice ga gaps.length gc] := by simp [Fil.Pdu.rest, Fil.Pdu.cells]
        rw [hq]
        clear hq
        unfold Fil.Pdu.cells
        simp only []
        generalize data.length = dl
        generalize gaps.length = gl
        go_enter Try.func99, Try.ntmps99
        go_wp2_with fail
        exact bodyPost_ret (v := .agg #[.int .i64 3, .int .i64 src, .int .i64 num, .int .i64 0, .string name, .int .i64 0, .int .i64 off, .slice da dl dc, .int .u32 0, .int .i64 0, .slice ga gl gc]) (by simp [results, Try.results99, go_sem]) rfl ⟨rfl, ((Below.refl _ _).alloc (Nat.le_refl _) _).alloc (by simp) _⟩
      · -- not 3
        by_cases k4 : kind = 4
        · subst k4
          have hq : (Fil.Pdu.rest ⟨4, src, num, cls, name, size, off, da, data, dc, sum, code, ga, gaps, gc⟩).cells = #[.int .i64 4, .int .i64 src, .int .i64 num, .int .i64 cls, .string name, .int .i64 size, .int .i64 off, .slice da data.length dc, .int .u32 (sum : Nat), .int .i64 code, .slice none 0 0] := by simp [Fil.Pdu.rest, Fil.Pdu.cells]
          rw [hq]
          clear hq
          unfold Fil.Pdu.cells
          simp only []
          generalize data.length = dl
          generalize gaps.length = gl
          go_enter Try.func99, Try.ntmps99
          go_wp2_with fail
          exact bodyPost_ret (v := .agg #[.int .i64 4, .int .i64 src, .int .i64 num, .int .i64 cls, .string name, .int .i64 size, .int .i64 off, .slice da dl dc, .int .u32 (sum : Nat), .int .i64 code, .slice none 0 0]) (by simp [results, Try.results99, go_sem]) rfl ⟨rfl, ((Below.refl _ _).alloc (Nat.le_refl _) _).alloc (by simp) _⟩
        · -- not 4
          by_cases k5 : kind = 5
          · subst k5
            have hq : (Fil.Pdu.rest ⟨5, src, num, cls, name, size, off, da, data, dc, sum, code, ga, gaps, gc⟩).cells = #[.int .i64 5, .int .i64 src, .int .i64 num, .int .i64 cls, .string name, .int .i64 size, .int .i64 off, .slice da data.length dc, .int .u32 (sum : Nat), .int .i64 0, .slice ga gaps.length gc] := by simp [Fil.Pdu.rest, Fil.Pdu.cells]
            rw [hq]
            clear hq
            unfold Fil.Pdu.cells
            simp only []
            generalize data.length = dl
            generalize gaps.length = gl
            go_enter Try.func99, Try.ntmps99
            go_wp2_with fail
            exact bodyPost_ret (v := .agg #[.int .i64 5, .int .i64 src, .int .i64 num, .int .i64 cls, .string name, .int .i64 size, .int .i64 off, .slice da dl dc, .int .u32 (sum : Nat), .int .i64 0, .slice ga gl gc]) (by simp [results, Try.results99, go_sem]) rfl ⟨rfl, ((Below.refl _ _).alloc (Nat.le_refl _) _).alloc (by simp) _⟩
          · -- not 5
            have hq : (Fil.Pdu.rest ⟨kind, src, num, cls, name, size, off, da, data, dc, sum, code, ga, gaps, gc⟩).cells = #[.int .i64 kind, .int .i64 src, .int .i64 num, .int .i64 cls, .string name, .int .i64 size, .int .i64 off, .slice da data.length dc, .int .u32 (sum : Nat), .int .i64 code, .slice ga gaps.length gc] := by simp [Fil.Pdu.rest, Fil.Pdu.cells, k1, k2, k3, k4, k5]
            rw [hq]
            clear hq
            have b1 : (kind == 1) = false := by simpa using k1
            have b2 : (kind == 2) = false := by simpa using k2
            have b3 : (kind == 3) = false := by simpa using k3
            have b4 : (kind == 4) = false := by simpa using k4
            have b5 : (kind == 5) = false := by simpa using k5
            unfold Fil.Pdu.cells
            simp only []
            generalize data.length = dl
            generalize gaps.length = gl
            go_enter Try.func99, Try.ntmps99
            go_wp2_with fail
            exact bodyPost_ret (v := .agg #[.int .i64 kind, .int .i64 src, .int .i64 num, .int .i64 cls, .string name, .int .i64 size, .int .i64 off, .slice da dl dc, .int .u32 (sum : Nat), .int .i64 code, .slice ga gl gc]) (by simp [results, Try.results99, go_sem]) rfl ⟨rfl, ((Below.refl _ _).alloc (Nat.le_refl _) _).alloc (by simp) _⟩
end Go.Proofs.Ytfjadhkhmhnccaa
