/- The steps of the chapter's example: what the sending end of five bytes does. -/
import Derived.Test.YtfjadhkhmhnccaaSrcGood
set_option linter.unusedVariables false
set_option linter.unusedSimpArgs false
namespace Go.Proofs.Ytfjadhkhmhnccaa
open Go.RowKit Go.Proofs.Num
def lvS : Fil.Src := newSrc 1 7 1 ⟨#[120]⟩ [65, 66, 67, 68, 69] 2 10 0
def lvS1 : Fil.Src := { lvS with started := true }
def lvS2 : Fil.Src := { lvS with started := true, at' := 2 }
def lvS3 : Fil.Src := { lvS with started := true, at' := 4 }
def lvS4 : Fil.Src := { lvS with started := true, at' := 5 }
def lvS5 : Fil.Src := { lvS with started := true, at' := 5, phase := 4 }
def lvT : Fil.Src := newSrc 1 7 2 ⟨#[120]⟩ [65, 66, 67, 68, 69] 5 10 1
def lvT1 : Fil.Src := { lvT with now := 3, started := true }
def lvT2 : Fil.Src := { lvT with now := 3, started := true, at' := 5 }
def lvT3 : Fil.Src := { lvT with now := 3, started := true, at' := 5, phase := 1, timer := 3 }
def lvT4 : Fil.Src := { lvT with now := 12, started := true, at' := 5, phase := 1, timer := 3 }
def lvT5 : Fil.Src := { lvT with now := 13, started := true, at' := 5, phase := 1, timer := 13, tries := 1 }
def lvT6 : Fil.Src := { lvT with now := 14, started := true, at' := 5, phase := 1, timer := 14, tries := 0, meta' := true, wanted := [(1, 4)] }
def lvT7 : Fil.Src := { lvT with now := 14, started := true, at' := 5, phase := 1, timer := 14, tries := 0, wanted := [(1, 4)] }
def lvT8 : Fil.Src := { lvT with now := 14, started := true, at' := 5, phase := 1, timer := 14, tries := 0 }
def lvT9 : Fil.Src := { lvT with now := 24, started := true, at' := 5, phase := 1, timer := 24, tries := 1 }
def lvT10 : Fil.Src := { lvT with now := 34, started := true, at' := 5, phase := 5, timer := 24, tries := 1, code := 10 }
theorem g_lvS : Fil.Good lvS where
  n := by decide
  b := by decide
  c := by decide
  to := by decide
  re := by decide
  nw := by decide
  ti := by decide
  tr := by decide
  at0 := by decide
  w := by decide
  wv := Rng.Valid.nil
theorem g_lvT : Fil.Good lvT where
  n := by decide
  b := by decide
  c := by decide
  to := by decide
  re := by decide
  nw := by decide
  ti := by decide
  tr := by decide
  at0 := by decide
  w := by decide
  wv := Rng.Valid.nil
theorem e_lvS1 : lvS.nextV 0 = (lvS1, .head) := by kernel_rfl
theorem g_lvS1 : Fil.Good lvS1 := by have h := (g_lvS.nextV 0); rw [e_lvS1] at h; exact h
theorem p_lvS1 (pa : Option Addr) (pc : Nat) : (Fil.U.pdu (lvS.pass 0) pa pc (.head)).cells = #[.int .i64 1, .int .i64 1, .int .i64 7, .int .i64 1, .string ⟨#[120]⟩, .int .i64 5, .int .i64 0, .slice none 0 0, .int .u32 0, .int .i64 0, .slice none 0 0] := by kernel_rfl
theorem st_lvS1 {W w : World} {l : List HProp} (hl : ∀ B ∈ l, Stable B) (q : Nat) (h : Sts W (srcP q lvS :: l) w) : Calls Try.prog 20 #[.pointer (some ⟨q, 0, none⟩), .int .i64 0] w fun e w' => e = .returned (.tuple #[.agg #[.int .i64 1, .int .i64 1, .int .i64 7, .int .i64 1, .string ⟨#[120]⟩, .int .i64 5, .int .i64 0, .slice none 0 0, .int .u32 0, .int .i64 0, .slice none 0 0], .bool true]) ∧ Sts W (srcP q lvS1 :: l) w' := by
  refine (cNext hl q lvS h g_lvS 0).mono ?_
  rintro e w' ⟨pa, pc, he, h'⟩
  rw [e_lvS1] at he h'
  rw [p_lvS1] at he
  exact ⟨he, h'.swap.tail⟩
theorem e_lvS2 : lvS1.nextV 0 = (lvS2, .piece 0 2) := by kernel_rfl
theorem g_lvS2 : Fil.Good lvS2 := by have h := (g_lvS1.nextV 0); rw [e_lvS2] at h; exact h
theorem p_lvS2 (pa : Option Addr) (pc : Nat) : (Fil.U.pdu (lvS1.pass 0) pa pc (.piece 0 2)).cells = #[.int .i64 2, .int .i64 1, .int .i64 7, .int .i64 0, .string ⟨#[]⟩, .int .i64 0, .int .i64 0, .slice pa 2 pc, .int .u32 0, .int .i64 0, .slice none 0 0] := by kernel_rfl
theorem d_lvS2 : Fil.U.data (lvS1.pass 0) (.piece 0 2) = [65, 66] := by kernel_rfl
theorem st_lvS2 {W w : World} {l : List HProp} (hl : ∀ B ∈ l, Stable B) (q : Nat) (h : Sts W (srcP q lvS1 :: l) w) : Calls Try.prog 20 #[.pointer (some ⟨q, 0, none⟩), .int .i64 0] w fun e w' => ∃ pa pc, e = .returned (.tuple #[.agg #[.int .i64 2, .int .i64 1, .int .i64 7, .int .i64 0, .string ⟨#[]⟩, .int .i64 0, .int .i64 0, .slice pa 2 pc, .int .u32 0, .int .i64 0, .slice none 0 0], .bool true]) ∧ Sts W (srcP q lvS2 :: rowU pa pc [65, 66] :: l) w' := by
  refine (cNext hl q lvS1 h g_lvS1 0).mono ?_
  rintro e w' ⟨pa, pc, he, h'⟩
  rw [e_lvS2] at he h'
  rw [p_lvS2] at he
  rw [d_lvS2] at h'
  exact ⟨pa, pc, he, h'⟩
theorem e_lvS3 : lvS2.nextV 0 = (lvS3, .piece 2 4) := by kernel_rfl
theorem g_lvS3 : Fil.Good lvS3 := by have h := (g_lvS2.nextV 0); rw [e_lvS3] at h; exact h
theorem p_lvS3 (pa : Option Addr) (pc : Nat) : (Fil.U.pdu (lvS2.pass 0) pa pc (.piece 2 4)).cells = #[.int .i64 2, .int .i64 1, .int .i64 7, .int .i64 0, .string ⟨#[]⟩, .int .i64 0, .int .i64 2, .slice pa 2 pc, .int .u32 0, .int .i64 0, .slice none 0 0] := by kernel_rfl
theorem d_lvS3 : Fil.U.data (lvS2.pass 0) (.piece 2 4) = [67, 68] := by kernel_rfl
theorem st_lvS3 {W w : World} {l : List HProp} (hl : ∀ B ∈ l, Stable B) (q : Nat) (h : Sts W (srcP q lvS2 :: l) w) : Calls Try.prog 20 #[.pointer (some ⟨q, 0, none⟩), .int .i64 0] w fun e w' => ∃ pa pc, e = .returned (.tuple #[.agg #[.int .i64 2, .int .i64 1, .int .i64 7, .int .i64 0, .string ⟨#[]⟩, .int .i64 0, .int .i64 2, .slice pa 2 pc, .int .u32 0, .int .i64 0, .slice none 0 0], .bool true]) ∧ Sts W (srcP q lvS3 :: rowU pa pc [67, 68] :: l) w' := by
  refine (cNext hl q lvS2 h g_lvS2 0).mono ?_
  rintro e w' ⟨pa, pc, he, h'⟩
  rw [e_lvS3] at he h'
  rw [p_lvS3] at he
  rw [d_lvS3] at h'
  exact ⟨pa, pc, he, h'⟩
theorem e_lvS4 : lvS3.nextV 0 = (lvS4, .piece 4 5) := by kernel_rfl
theorem g_lvS4 : Fil.Good lvS4 := by have h := (g_lvS3.nextV 0); rw [e_lvS4] at h; exact h
theorem p_lvS4 (pa : Option Addr) (pc : Nat) : (Fil.U.pdu (lvS3.pass 0) pa pc (.piece 4 5)).cells = #[.int .i64 2, .int .i64 1, .int .i64 7, .int .i64 0, .string ⟨#[]⟩, .int .i64 0, .int .i64 4, .slice pa 1 pc, .int .u32 0, .int .i64 0, .slice none 0 0] := by kernel_rfl
theorem d_lvS4 : Fil.U.data (lvS3.pass 0) (.piece 4 5) = [69] := by kernel_rfl
theorem st_lvS4 {W w : World} {l : List HProp} (hl : ∀ B ∈ l, Stable B) (q : Nat) (h : Sts W (srcP q lvS3 :: l) w) : Calls Try.prog 20 #[.pointer (some ⟨q, 0, none⟩), .int .i64 0] w fun e w' => ∃ pa pc, e = .returned (.tuple #[.agg #[.int .i64 2, .int .i64 1, .int .i64 7, .int .i64 0, .string ⟨#[]⟩, .int .i64 0, .int .i64 4, .slice pa 1 pc, .int .u32 0, .int .i64 0, .slice none 0 0], .bool true]) ∧ Sts W (srcP q lvS4 :: rowU pa pc [69] :: l) w' := by
  refine (cNext hl q lvS3 h g_lvS3 0).mono ?_
  rintro e w' ⟨pa, pc, he, h'⟩
  rw [e_lvS4] at he h'
  rw [p_lvS4] at he
  rw [d_lvS4] at h'
  exact ⟨pa, pc, he, h'⟩
theorem e_lvS5 : lvS4.nextV 0 = (lvS5, .eof 0) := by kernel_rfl
theorem g_lvS5 : Fil.Good lvS5 := by have h := (g_lvS4.nextV 0); rw [e_lvS5] at h; exact h
theorem p_lvS5 (pa : Option Addr) (pc : Nat) : (Fil.U.pdu (lvS4.pass 0) pa pc (.eof 0)).cells = #[.int .i64 3, .int .i64 1, .int .i64 7, .int .i64 1, .string ⟨#[]⟩, .int .i64 5, .int .i64 0, .slice none 0 0, .int .u32 2252489540, .int .i64 0, .slice none 0 0] := by kernel_rfl
theorem st_lvS5 {W w : World} {l : List HProp} (hl : ∀ B ∈ l, Stable B) (q : Nat) (h : Sts W (srcP q lvS4 :: l) w) : Calls Try.prog 20 #[.pointer (some ⟨q, 0, none⟩), .int .i64 0] w fun e w' => e = .returned (.tuple #[.agg #[.int .i64 3, .int .i64 1, .int .i64 7, .int .i64 1, .string ⟨#[]⟩, .int .i64 5, .int .i64 0, .slice none 0 0, .int .u32 2252489540, .int .i64 0, .slice none 0 0], .bool true]) ∧ Sts W (srcP q lvS5 :: l) w' := by
  refine (cNext hl q lvS4 h g_lvS4 0).mono ?_
  rintro e w' ⟨pa, pc, he, h'⟩
  rw [e_lvS5] at he h'
  rw [p_lvS5] at he
  exact ⟨he, h'.swap.tail⟩
theorem e_lvT1 : lvT.nextV 3 = (lvT1, .head) := by kernel_rfl
theorem g_lvT1 : Fil.Good lvT1 := by have h := (g_lvT.nextV 3); rw [e_lvT1] at h; exact h
theorem p_lvT1 (pa : Option Addr) (pc : Nat) : (Fil.U.pdu (lvT.pass 3) pa pc (.head)).cells = #[.int .i64 1, .int .i64 1, .int .i64 7, .int .i64 2, .string ⟨#[120]⟩, .int .i64 5, .int .i64 0, .slice none 0 0, .int .u32 0, .int .i64 0, .slice none 0 0] := by kernel_rfl
theorem st_lvT1 {W w : World} {l : List HProp} (hl : ∀ B ∈ l, Stable B) (q : Nat) (h : Sts W (srcP q lvT :: l) w) : Calls Try.prog 20 #[.pointer (some ⟨q, 0, none⟩), .int .i64 3] w fun e w' => e = .returned (.tuple #[.agg #[.int .i64 1, .int .i64 1, .int .i64 7, .int .i64 2, .string ⟨#[120]⟩, .int .i64 5, .int .i64 0, .slice none 0 0, .int .u32 0, .int .i64 0, .slice none 0 0], .bool true]) ∧ Sts W (srcP q lvT1 :: l) w' := by
  refine (cNext hl q lvT h g_lvT 3).mono ?_
  rintro e w' ⟨pa, pc, he, h'⟩
  rw [e_lvT1] at he h'
  rw [p_lvT1] at he
  exact ⟨he, h'.swap.tail⟩
theorem e_lvT2 : lvT1.nextV 3 = (lvT2, .piece 0 5) := by kernel_rfl
theorem g_lvT2 : Fil.Good lvT2 := by have h := (g_lvT1.nextV 3); rw [e_lvT2] at h; exact h
theorem p_lvT2 (pa : Option Addr) (pc : Nat) : (Fil.U.pdu (lvT1.pass 3) pa pc (.piece 0 5)).cells = #[.int .i64 2, .int .i64 1, .int .i64 7, .int .i64 0, .string ⟨#[]⟩, .int .i64 0, .int .i64 0, .slice pa 5 pc, .int .u32 0, .int .i64 0, .slice none 0 0] := by kernel_rfl
theorem d_lvT2 : Fil.U.data (lvT1.pass 3) (.piece 0 5) = [65, 66, 67, 68, 69] := by kernel_rfl
theorem st_lvT2 {W w : World} {l : List HProp} (hl : ∀ B ∈ l, Stable B) (q : Nat) (h : Sts W (srcP q lvT1 :: l) w) : Calls Try.prog 20 #[.pointer (some ⟨q, 0, none⟩), .int .i64 3] w fun e w' => ∃ pa pc, e = .returned (.tuple #[.agg #[.int .i64 2, .int .i64 1, .int .i64 7, .int .i64 0, .string ⟨#[]⟩, .int .i64 0, .int .i64 0, .slice pa 5 pc, .int .u32 0, .int .i64 0, .slice none 0 0], .bool true]) ∧ Sts W (srcP q lvT2 :: rowU pa pc [65, 66, 67, 68, 69] :: l) w' := by
  refine (cNext hl q lvT1 h g_lvT1 3).mono ?_
  rintro e w' ⟨pa, pc, he, h'⟩
  rw [e_lvT2] at he h'
  rw [p_lvT2] at he
  rw [d_lvT2] at h'
  exact ⟨pa, pc, he, h'⟩
theorem e_lvT3 : lvT2.nextV 3 = (lvT3, .eof 0) := by kernel_rfl
theorem g_lvT3 : Fil.Good lvT3 := by have h := (g_lvT2.nextV 3); rw [e_lvT3] at h; exact h
theorem p_lvT3 (pa : Option Addr) (pc : Nat) : (Fil.U.pdu (lvT2.pass 3) pa pc (.eof 0)).cells = #[.int .i64 3, .int .i64 1, .int .i64 7, .int .i64 2, .string ⟨#[]⟩, .int .i64 5, .int .i64 0, .slice none 0 0, .int .u32 2252489540, .int .i64 0, .slice none 0 0] := by kernel_rfl
theorem st_lvT3 {W w : World} {l : List HProp} (hl : ∀ B ∈ l, Stable B) (q : Nat) (h : Sts W (srcP q lvT2 :: l) w) : Calls Try.prog 20 #[.pointer (some ⟨q, 0, none⟩), .int .i64 3] w fun e w' => e = .returned (.tuple #[.agg #[.int .i64 3, .int .i64 1, .int .i64 7, .int .i64 2, .string ⟨#[]⟩, .int .i64 5, .int .i64 0, .slice none 0 0, .int .u32 2252489540, .int .i64 0, .slice none 0 0], .bool true]) ∧ Sts W (srcP q lvT3 :: l) w' := by
  refine (cNext hl q lvT2 h g_lvT2 3).mono ?_
  rintro e w' ⟨pa, pc, he, h'⟩
  rw [e_lvT3] at he h'
  rw [p_lvT3] at he
  exact ⟨he, h'.swap.tail⟩
theorem e_lvT4 : lvT3.nextV 12 = (lvT4, .non) := by kernel_rfl
theorem g_lvT4 : Fil.Good lvT4 := by have h := (g_lvT3.nextV 12); rw [e_lvT4] at h; exact h
theorem p_lvT4 (pa : Option Addr) (pc : Nat) : (Fil.U.pdu (lvT3.pass 12) pa pc (.non)).cells = #[.int .i64 0, .int .i64 0, .int .i64 0, .int .i64 0, .string ⟨#[]⟩, .int .i64 0, .int .i64 0, .slice none 0 0, .int .u32 0, .int .i64 0, .slice none 0 0] := by kernel_rfl
theorem st_lvT4 {W w : World} {l : List HProp} (hl : ∀ B ∈ l, Stable B) (q : Nat) (h : Sts W (srcP q lvT3 :: l) w) : Calls Try.prog 20 #[.pointer (some ⟨q, 0, none⟩), .int .i64 12] w fun e w' => e = .returned (.tuple #[.agg #[.int .i64 0, .int .i64 0, .int .i64 0, .int .i64 0, .string ⟨#[]⟩, .int .i64 0, .int .i64 0, .slice none 0 0, .int .u32 0, .int .i64 0, .slice none 0 0], .bool false]) ∧ Sts W (srcP q lvT4 :: l) w' := by
  refine (cNext hl q lvT3 h g_lvT3 12).mono ?_
  rintro e w' ⟨pa, pc, he, h'⟩
  rw [e_lvT4] at he h'
  rw [p_lvT4] at he
  exact ⟨he, h'.swap.tail⟩
theorem e_lvT5 : lvT4.nextV 13 = (lvT5, .eof 0) := by kernel_rfl
theorem g_lvT5 : Fil.Good lvT5 := by have h := (g_lvT4.nextV 13); rw [e_lvT5] at h; exact h
theorem p_lvT5 (pa : Option Addr) (pc : Nat) : (Fil.U.pdu (lvT4.pass 13) pa pc (.eof 0)).cells = #[.int .i64 3, .int .i64 1, .int .i64 7, .int .i64 2, .string ⟨#[]⟩, .int .i64 5, .int .i64 0, .slice none 0 0, .int .u32 2252489540, .int .i64 0, .slice none 0 0] := by kernel_rfl
theorem st_lvT5 {W w : World} {l : List HProp} (hl : ∀ B ∈ l, Stable B) (q : Nat) (h : Sts W (srcP q lvT4 :: l) w) : Calls Try.prog 20 #[.pointer (some ⟨q, 0, none⟩), .int .i64 13] w fun e w' => e = .returned (.tuple #[.agg #[.int .i64 3, .int .i64 1, .int .i64 7, .int .i64 2, .string ⟨#[]⟩, .int .i64 5, .int .i64 0, .slice none 0 0, .int .u32 2252489540, .int .i64 0, .slice none 0 0], .bool true]) ∧ Sts W (srcP q lvT5 :: l) w' := by
  refine (cNext hl q lvT4 h g_lvT4 13).mono ?_
  rintro e w' ⟨pa, pc, he, h'⟩
  rw [e_lvT5] at he h'
  rw [p_lvT5] at he
  exact ⟨he, h'.swap.tail⟩
def lvP (b : Nat) : Fil.Pdu := { kind := 4, src := 1, num := 7, ga := some ⟨b, 0, none⟩, gaps := [(0, 0), (1, 4)], gc := 2 }
theorem e_take (b : Nat) : lvT5.takeV (lvP b) 14 = (lvT6, 0) := by kernel_rfl
theorem g_lvT6 : Fil.Good lvT6 := by have h := (g_lvT5.takeV (lvP 0) 14); rw [e_take] at h; exact h
theorem stTake {W w : World} {l : List HProp} (hl : ∀ B ∈ l, Stable B) (q b : Nat) (h : Sts W (srcP q lvT5 :: l) w) (hg : ∀ A y, Sts W (A :: l) y → RdR y (.slice (some ⟨b, 0, none⟩) 2 2) [(0, 0), (1, 4)]) :
    Calls Try.prog 25 #[.pointer (some ⟨q, 0, none⟩), .agg #[.int .i64 4, .int .i64 1, .int .i64 7, .int .i64 0, .string ⟨#[]⟩, .int .i64 0, .int .i64 0, .slice none 0 0, .int .u32 0, .int .i64 0, .slice (some ⟨b, 0, none⟩) 2 2], .int .i64 14] w fun e w' => e = .returned (.int .i64 0) ∧ Sts W (srcP q lvT6 :: l) w' := by
  have hc := cTake hl q lvT5 h g_lvT5 (lvP b) 14 (by show (0 : Nat) ≤ 1000000; omega) (by show (0 : Nat) < 1000000000; omega) (by show (2 : Nat) < 1000; omega) hg
  rw [e_take] at hc
  exact hc
theorem e_lvT7 : lvT6.nextV 14 = (lvT7, .head) := by kernel_rfl
theorem g_lvT7 : Fil.Good lvT7 := by have h := (g_lvT6.nextV 14); rw [e_lvT7] at h; exact h
theorem p_lvT7 (pa : Option Addr) (pc : Nat) : (Fil.U.pdu (lvT6.pass 14) pa pc (.head)).cells = #[.int .i64 1, .int .i64 1, .int .i64 7, .int .i64 2, .string ⟨#[120]⟩, .int .i64 5, .int .i64 0, .slice none 0 0, .int .u32 0, .int .i64 0, .slice none 0 0] := by kernel_rfl
theorem st_lvT7 {W w : World} {l : List HProp} (hl : ∀ B ∈ l, Stable B) (q : Nat) (h : Sts W (srcP q lvT6 :: l) w) : Calls Try.prog 20 #[.pointer (some ⟨q, 0, none⟩), .int .i64 14] w fun e w' => e = .returned (.tuple #[.agg #[.int .i64 1, .int .i64 1, .int .i64 7, .int .i64 2, .string ⟨#[120]⟩, .int .i64 5, .int .i64 0, .slice none 0 0, .int .u32 0, .int .i64 0, .slice none 0 0], .bool true]) ∧ Sts W (srcP q lvT7 :: l) w' := by
  refine (cNext hl q lvT6 h g_lvT6 14).mono ?_
  rintro e w' ⟨pa, pc, he, h'⟩
  rw [e_lvT7] at he h'
  rw [p_lvT7] at he
  exact ⟨he, h'.swap.tail⟩
theorem e_lvT8 : lvT7.nextV 14 = (lvT8, .piece 1 4) := by kernel_rfl
theorem g_lvT8 : Fil.Good lvT8 := by have h := (g_lvT7.nextV 14); rw [e_lvT8] at h; exact h
theorem p_lvT8 (pa : Option Addr) (pc : Nat) : (Fil.U.pdu (lvT7.pass 14) pa pc (.piece 1 4)).cells = #[.int .i64 2, .int .i64 1, .int .i64 7, .int .i64 0, .string ⟨#[]⟩, .int .i64 0, .int .i64 1, .slice pa 3 pc, .int .u32 0, .int .i64 0, .slice none 0 0] := by kernel_rfl
theorem d_lvT8 : Fil.U.data (lvT7.pass 14) (.piece 1 4) = [66, 67, 68] := by kernel_rfl
theorem st_lvT8 {W w : World} {l : List HProp} (hl : ∀ B ∈ l, Stable B) (q : Nat) (h : Sts W (srcP q lvT7 :: l) w) : Calls Try.prog 20 #[.pointer (some ⟨q, 0, none⟩), .int .i64 14] w fun e w' => ∃ pa pc, e = .returned (.tuple #[.agg #[.int .i64 2, .int .i64 1, .int .i64 7, .int .i64 0, .string ⟨#[]⟩, .int .i64 0, .int .i64 1, .slice pa 3 pc, .int .u32 0, .int .i64 0, .slice none 0 0], .bool true]) ∧ Sts W (srcP q lvT8 :: rowU pa pc [66, 67, 68] :: l) w' := by
  refine (cNext hl q lvT7 h g_lvT7 14).mono ?_
  rintro e w' ⟨pa, pc, he, h'⟩
  rw [e_lvT8] at he h'
  rw [p_lvT8] at he
  rw [d_lvT8] at h'
  exact ⟨pa, pc, he, h'⟩
theorem e_lvT9 : lvT8.nextV 24 = (lvT9, .eof 0) := by kernel_rfl
theorem g_lvT9 : Fil.Good lvT9 := by have h := (g_lvT8.nextV 24); rw [e_lvT9] at h; exact h
theorem p_lvT9 (pa : Option Addr) (pc : Nat) : (Fil.U.pdu (lvT8.pass 24) pa pc (.eof 0)).cells = #[.int .i64 3, .int .i64 1, .int .i64 7, .int .i64 2, .string ⟨#[]⟩, .int .i64 5, .int .i64 0, .slice none 0 0, .int .u32 2252489540, .int .i64 0, .slice none 0 0] := by kernel_rfl
theorem st_lvT9 {W w : World} {l : List HProp} (hl : ∀ B ∈ l, Stable B) (q : Nat) (h : Sts W (srcP q lvT8 :: l) w) : Calls Try.prog 20 #[.pointer (some ⟨q, 0, none⟩), .int .i64 24] w fun e w' => e = .returned (.tuple #[.agg #[.int .i64 3, .int .i64 1, .int .i64 7, .int .i64 2, .string ⟨#[]⟩, .int .i64 5, .int .i64 0, .slice none 0 0, .int .u32 2252489540, .int .i64 0, .slice none 0 0], .bool true]) ∧ Sts W (srcP q lvT9 :: l) w' := by
  refine (cNext hl q lvT8 h g_lvT8 24).mono ?_
  rintro e w' ⟨pa, pc, he, h'⟩
  rw [e_lvT9] at he h'
  rw [p_lvT9] at he
  exact ⟨he, h'.swap.tail⟩
theorem e_lvT10 : lvT9.nextV 34 = (lvT10, .non) := by kernel_rfl
theorem g_lvT10 : Fil.Good lvT10 := by have h := (g_lvT9.nextV 34); rw [e_lvT10] at h; exact h
theorem p_lvT10 (pa : Option Addr) (pc : Nat) : (Fil.U.pdu (lvT9.pass 34) pa pc (.non)).cells = #[.int .i64 0, .int .i64 0, .int .i64 0, .int .i64 0, .string ⟨#[]⟩, .int .i64 0, .int .i64 0, .slice none 0 0, .int .u32 0, .int .i64 0, .slice none 0 0] := by kernel_rfl
theorem st_lvT10 {W w : World} {l : List HProp} (hl : ∀ B ∈ l, Stable B) (q : Nat) (h : Sts W (srcP q lvT9 :: l) w) : Calls Try.prog 20 #[.pointer (some ⟨q, 0, none⟩), .int .i64 34] w fun e w' => e = .returned (.tuple #[.agg #[.int .i64 0, .int .i64 0, .int .i64 0, .int .i64 0, .string ⟨#[]⟩, .int .i64 0, .int .i64 0, .slice none 0 0, .int .u32 0, .int .i64 0, .slice none 0 0], .bool false]) ∧ Sts W (srcP q lvT10 :: l) w' := by
  refine (cNext hl q lvT9 h g_lvT9 34).mono ?_
  rintro e w' ⟨pa, pc, he, h'⟩
  rw [e_lvT10] at he h'
  rw [p_lvT10] at he
  exact ⟨he, h'.swap.tail⟩
end Go.Proofs.Ytfjadhkhmhnccaa
