/- The steps of the chapter's example: what the sending end of five bytes does. The chapter's example: spacecraftlaw27.lives. -/
import Derived.Test.YtfjadhkhmhnccaaSrcOps
import Derived.Lib.SlBytesConst
set_option linter.unusedVariables false
set_option linter.unusedSimpArgs false
namespace Go.Proofs.Ytfjadhkhmhnccaa
open Go.RowKit Go.Proofs.Num
def lvS : Fil.Src := newSrc 1 7 1 ⟨#[120]⟩ [65, 66, 67, 68, 69] 2 10 0
def lvS1 : Fil.Src := { lvS with started := true }
def lvS2 : Fil.Src := { lvS with started := true, at' := 2 }
def lvS3 : Fil.Src := { lvS with started := true, at' := 4 }
def lvS4 : Fil.Src := { lvS with started := true, at' := 5 }
def lvS5 : Fil.Src := { lvS with started := true, at' := 5, phase := 4 }
def lvT : Fil.Src := newSrc 1 7 2 ⟨#[120]⟩ [65, 66, 67, 68, 69] 5 10 1
def lvT1 : Fil.Src := { lvT with now := 3, started := true }
def lvT2 : Fil.Src := { lvT with now := 3, started := true, at' := 5 }
def lvT3 : Fil.Src := { lvT with now := 3, started := true, at' := 5, phase := 1, timer := 3 }
def lvT4 : Fil.Src := { lvT with now := 12, started := true, at' := 5, phase := 1, timer := 3 }
def lvT5 : Fil.Src := { lvT with now := 13, started := true, at' := 5, phase := 1, timer := 13, tries := 1 }
def lvT6 : Fil.Src := { lvT with now := 14, started := true, at' := 5, phase := 1, timer := 14, tries := 0, mreq := true, wanted := [(1, 4)] }
def lvT7 : Fil.Src := { lvT with now := 14, started := true, at' := 5, phase := 1, timer := 14, tries := 0, wanted := [(1, 4)] }
def lvT8 : Fil.Src := { lvT with now := 14, started := true, at' := 5, phase := 1, timer := 14, tries := 0 }
def lvT9 : Fil.Src := { lvT with now := 24, started := true, at' := 5, phase := 1, timer := 24, tries := 1 }
def lvT10 : Fil.Src := { lvT with now := 34, started := true, at' := 5, phase := 5, timer := 24, tries := 1, code := 10 }
theorem g_lvS : Fil.Good lvS where
  n := by decide
  b := by decide
  c := by decide
  to := by decide
  re := by decide
  nw := by decide
  ti := by decide
  tr := by decide
  at0 := by decide
  w := by decide
  wv := Rng.Valid.nil
theorem g_lvT : Fil.Good lvT where
  n := by decide
  b := by decide
  c := by decide
  to := by decide
  re := by decide
  nw := by decide
  ti := by decide
  tr := by decide
  at0 := by decide
  w := by decide
  wv := Rng.Valid.nil
theorem e_lvS1 : lvS.nextV 0 = (lvS1, .head) := by kernel_rfl
theorem g_lvS1 : Fil.Good lvS1 := by have h := (g_lvS.nextV 0); rw [e_lvS1] at h; exact h
theorem p_lvS1 (pa : Option Addr) (pc : Nat) : (Fil.U.pdu (lvS.pass 0) pa pc (.head)).cells = #[.int .i64 1, .int .i64 1, .int .i64 7, .int .i64 1, .string ⟨#[120]⟩, .int .i64 5, .int .i64 0, .slice none 0 0, .int .u32 0, .int .i64 0, .slice none 0 0] := by kernel_rfl
theorem st_lvS1 {W w : World} {l : List HProp} (hl : ∀ B ∈ l, Stable B) (q : Nat) (h : Sts W (srcP q lvS :: l) w) : Calls Try.prog 20 #[.pointer (some ⟨q, 0, none⟩), .int .i64 0] w fun e w' => e = .returned (.tuple #[.agg #[.int .i64 1, .int .i64 1, .int .i64 7, .int .i64 1, .string ⟨#[120]⟩, .int .i64 5, .int .i64 0, .slice none 0 0, .int .u32 0, .int .i64 0, .slice none 0 0], .bool true]) ∧ Sts W (srcP q lvS1 :: l) w' := by
  refine (cNext hl q lvS h g_lvS 0).mono ?_
  rintro e w' ⟨pa, pc, he, h'⟩
  rw [e_lvS1] at he h'
  rw [p_lvS1] at he
  exact ⟨he, h'.swap.tail⟩
theorem e_lvS2 : lvS1.nextV 0 = (lvS2, .piece 0 2) := by kernel_rfl
theorem g_lvS2 : Fil.Good lvS2 := by have h := (g_lvS1.nextV 0); rw [e_lvS2] at h; exact h
theorem p_lvS2 (pa : Option Addr) (pc : Nat) : (Fil.U.pdu (lvS1.pass 0) pa pc (.piece 0 2)).cells = #[.int .i64 2, .int .i64 1, .int .i64 7, .int .i64 0, .string ⟨#[]⟩, .int .i64 0, .int .i64 0, .slice pa 2 pc, .int .u32 0, .int .i64 0, .slice none 0 0] := by kernel_rfl
theorem d_lvS2 : Fil.U.data (lvS1.pass 0) (.piece 0 2) = [65, 66] := by kernel_rfl
theorem st_lvS2 {W w : World} {l : List HProp} (hl : ∀ B ∈ l, Stable B) (q : Nat) (h : Sts W (srcP q lvS1 :: l) w) : Calls Try.prog 20 #[.pointer (some ⟨q, 0, none⟩), .int .i64 0] w fun e w' => ∃ pa pc, e = .returned (.tuple #[.agg #[.int .i64 2, .int .i64 1, .int .i64 7, .int .i64 0, .string ⟨#[]⟩, .int .i64 0, .int .i64 0, .slice pa 2 pc, .int .u32 0, .int .i64 0, .slice none 0 0], .bool true]) ∧ Sts W (srcP q lvS2 :: rowU pa pc [65, 66] :: l) w' := by
  refine (cNext hl q lvS1 h g_lvS1 0).mono ?_
  rintro e w' ⟨pa, pc, he, h'⟩
  rw [e_lvS2] at he h'
  rw [p_lvS2] at he
  rw [d_lvS2] at h'
  exact ⟨pa, pc, he, h'⟩
theorem e_lvS3 : lvS2.nextV 0 = (lvS3, .piece 2 4) := by kernel_rfl
theorem g_lvS3 : Fil.Good lvS3 := by have h := (g_lvS2.nextV 0); rw [e_lvS3] at h; exact h
theorem p_lvS3 (pa : Option Addr) (pc : Nat) : (Fil.U.pdu (lvS2.pass 0) pa pc (.piece 2 4)).cells = #[.int .i64 2, .int .i64 1, .int .i64 7, .int .i64 0, .string ⟨#[]⟩, .int .i64 0, .int .i64 2, .slice pa 2 pc, .int .u32 0, .int .i64 0, .slice none 0 0] := by kernel_rfl
theorem d_lvS3 : Fil.U.data (lvS2.pass 0) (.piece 2 4) = [67, 68] := by kernel_rfl
theorem st_lvS3 {W w : World} {l : List HProp} (hl : ∀ B ∈ l, Stable B) (q : Nat) (h : Sts W (srcP q lvS2 :: l) w) : Calls Try.prog 20 #[.pointer (some ⟨q, 0, none⟩), .int .i64 0] w fun e w' => ∃ pa pc, e = .returned (.tuple #[.agg #[.int .i64 2, .int .i64 1, .int .i64 7, .int .i64 0, .string ⟨#[]⟩, .int .i64 0, .int .i64 2, .slice pa 2 pc, .int .u32 0, .int .i64 0, .slice none 0 0], .bool true]) ∧ Sts W (srcP q lvS3 :: rowU pa pc [67, 68] :: l) w' := by
  refine (cNext hl q lvS2 h g_lvS2 0).mono ?_
  rintro e w' ⟨pa, pc, he, h'⟩
  rw [e_lvS3] at he h'
  rw [p_lvS3] at he
  rw [d_lvS3] at h'
  exact ⟨pa, pc, he, h'⟩
theorem e_lvS4 : lvS3.nextV 0 = (lvS4, .piece 4 5) := by kernel_rfl
theorem g_lvS4 : Fil.Good lvS4 := by have h := (g_lvS3.nextV 0); rw [e_lvS4] at h; exact h
theorem p_lvS4 (pa : Option Addr) (pc : Nat) : (Fil.U.pdu (lvS3.pass 0) pa pc (.piece 4 5)).cells = #[.int .i64 2, .int .i64 1, .int .i64 7, .int .i64 0, .string ⟨#[]⟩, .int .i64 0, .int .i64 4, .slice pa 1 pc, .int .u32 0, .int .i64 0, .slice none 0 0] := by kernel_rfl
theorem d_lvS4 : Fil.U.data (lvS3.pass 0) (.piece 4 5) = [69] := by kernel_rfl
theorem st_lvS4 {W w : World} {l : List HProp} (hl : ∀ B ∈ l, Stable B) (q : Nat) (h : Sts W (srcP q lvS3 :: l) w) : Calls Try.prog 20 #[.pointer (some ⟨q, 0, none⟩), .int .i64 0] w fun e w' => ∃ pa pc, e = .returned (.tuple #[.agg #[.int .i64 2, .int .i64 1, .int .i64 7, .int .i64 0, .string ⟨#[]⟩, .int .i64 0, .int .i64 4, .slice pa 1 pc, .int .u32 0, .int .i64 0, .slice none 0 0], .bool true]) ∧ Sts W (srcP q lvS4 :: rowU pa pc [69] :: l) w' := by
  refine (cNext hl q lvS3 h g_lvS3 0).mono ?_
  rintro e w' ⟨pa, pc, he, h'⟩
  rw [e_lvS4] at he h'
  rw [p_lvS4] at he
  rw [d_lvS4] at h'
  exact ⟨pa, pc, he, h'⟩
theorem e_lvS5 : lvS4.nextV 0 = (lvS5, .eof 0) := by kernel_rfl
theorem g_lvS5 : Fil.Good lvS5 := by have h := (g_lvS4.nextV 0); rw [e_lvS5] at h; exact h
theorem p_lvS5 (pa : Option Addr) (pc : Nat) : (Fil.U.pdu (lvS4.pass 0) pa pc (.eof 0)).cells = #[.int .i64 3, .int .i64 1, .int .i64 7, .int .i64 1, .string ⟨#[]⟩, .int .i64 5, .int .i64 0, .slice none 0 0, .int .u32 2252489540, .int .i64 0, .slice none 0 0] := by kernel_rfl
theorem st_lvS5 {W w : World} {l : List HProp} (hl : ∀ B ∈ l, Stable B) (q : Nat) (h : Sts W (srcP q lvS4 :: l) w) : Calls Try.prog 20 #[.pointer (some ⟨q, 0, none⟩), .int .i64 0] w fun e w' => e = .returned (.tuple #[.agg #[.int .i64 3, .int .i64 1, .int .i64 7, .int .i64 1, .string ⟨#[]⟩, .int .i64 5, .int .i64 0, .slice none 0 0, .int .u32 2252489540, .int .i64 0, .slice none 0 0], .bool true]) ∧ Sts W (srcP q lvS5 :: l) w' := by
  refine (cNext hl q lvS4 h g_lvS4 0).mono ?_
  rintro e w' ⟨pa, pc, he, h'⟩
  rw [e_lvS5] at he h'
  rw [p_lvS5] at he
  exact ⟨he, h'.swap.tail⟩
theorem e_lvT1 : lvT.nextV 3 = (lvT1, .head) := by kernel_rfl
theorem g_lvT1 : Fil.Good lvT1 := by have h := (g_lvT.nextV 3); rw [e_lvT1] at h; exact h
theorem p_lvT1 (pa : Option Addr) (pc : Nat) : (Fil.U.pdu (lvT.pass 3) pa pc (.head)).cells = #[.int .i64 1, .int .i64 1, .int .i64 7, .int .i64 2, .string ⟨#[120]⟩, .int .i64 5, .int .i64 0, .slice none 0 0, .int .u32 0, .int .i64 0, .slice none 0 0] := by kernel_rfl
theorem st_lvT1 {W w : World} {l : List HProp} (hl : ∀ B ∈ l, Stable B) (q : Nat) (h : Sts W (srcP q lvT :: l) w) : Calls Try.prog 20 #[.pointer (some ⟨q, 0, none⟩), .int .i64 3] w fun e w' => e = .returned (.tuple #[.agg #[.int .i64 1, .int .i64 1, .int .i64 7, .int .i64 2, .string ⟨#[120]⟩, .int .i64 5, .int .i64 0, .slice none 0 0, .int .u32 0, .int .i64 0, .slice none 0 0], .bool true]) ∧ Sts W (srcP q lvT1 :: l) w' := by
  refine (cNext hl q lvT h g_lvT 3).mono ?_
  rintro e w' ⟨pa, pc, he, h'⟩
  rw [e_lvT1] at he h'
  rw [p_lvT1] at he
  exact ⟨he, h'.swap.tail⟩
theorem e_lvT2 : lvT1.nextV 3 = (lvT2, .piece 0 5) := by kernel_rfl
theorem g_lvT2 : Fil.Good lvT2 := by have h := (g_lvT1.nextV 3); rw [e_lvT2] at h; exact h
theorem p_lvT2 (pa : Option Addr) (pc : Nat) : (Fil.U.pdu (lvT1.pass 3) pa pc (.piece 0 5)).cells = #[.int .i64 2, .int .i64 1, .int .i64 7, .int .i64 0, .string ⟨#[]⟩, .int .i64 0, .int .i64 0, .slice pa 5 pc, .int .u32 0, .int .i64 0, .slice none 0 0] := by kernel_rfl
theorem d_lvT2 : Fil.U.data (lvT1.pass 3) (.piece 0 5) = [65, 66, 67, 68, 69] := by kernel_rfl
theorem st_lvT2 {W w : World} {l : List HProp} (hl : ∀ B ∈ l, Stable B) (q : Nat) (h : Sts W (srcP q lvT1 :: l) w) : Calls Try.prog 20 #[.pointer (some ⟨q, 0, none⟩), .int .i64 3] w fun e w' => ∃ pa pc, e = .returned (.tuple #[.agg #[.int .i64 2, .int .i64 1, .int .i64 7, .int .i64 0, .string ⟨#[]⟩, .int .i64 0, .int .i64 0, .slice pa 5 pc, .int .u32 0, .int .i64 0, .slice none 0 0], .bool true]) ∧ Sts W (srcP q lvT2 :: rowU pa pc [65, 66, 67, 68, 69] :: l) w' := by
  refine (cNext hl q lvT1 h g_lvT1 3).mono ?_
  rintro e w' ⟨pa, pc, he, h'⟩
  rw [e_lvT2] at he h'
  rw [p_lvT2] at he
  rw [d_lvT2] at h'
  exact ⟨pa, pc, he, h'⟩
theorem e_lvT3 : lvT2.nextV 3 = (lvT3, .eof 0) := by kernel_rfl
theorem g_lvT3 : Fil.Good lvT3 := by have h := (g_lvT2.nextV 3); rw [e_lvT3] at h; exact h
theorem p_lvT3 (pa : Option Addr) (pc : Nat) : (Fil.U.pdu (lvT2.pass 3) pa pc (.eof 0)).cells = #[.int .i64 3, .int .i64 1, .int .i64 7, .int .i64 2, .string ⟨#[]⟩, .int .i64 5, .int .i64 0, .slice none 0 0, .int .u32 2252489540, .int .i64 0, .slice none 0 0] := by kernel_rfl
theorem st_lvT3 {W w : World} {l : List HProp} (hl : ∀ B ∈ l, Stable B) (q : Nat) (h : Sts W (srcP q lvT2 :: l) w) : Calls Try.prog 20 #[.pointer (some ⟨q, 0, none⟩), .int .i64 3] w fun e w' => e = .returned (.tuple #[.agg #[.int .i64 3, .int .i64 1, .int .i64 7, .int .i64 2, .string ⟨#[]⟩, .int .i64 5, .int .i64 0, .slice none 0 0, .int .u32 2252489540, .int .i64 0, .slice none 0 0], .bool true]) ∧ Sts W (srcP q lvT3 :: l) w' := by
  refine (cNext hl q lvT2 h g_lvT2 3).mono ?_
  rintro e w' ⟨pa, pc, he, h'⟩
  rw [e_lvT3] at he h'
  rw [p_lvT3] at he
  exact ⟨he, h'.swap.tail⟩
theorem e_lvT4 : lvT3.nextV 12 = (lvT4, .non) := by kernel_rfl
theorem g_lvT4 : Fil.Good lvT4 := by have h := (g_lvT3.nextV 12); rw [e_lvT4] at h; exact h
theorem p_lvT4 (pa : Option Addr) (pc : Nat) : (Fil.U.pdu (lvT3.pass 12) pa pc (.non)).cells = #[.int .i64 0, .int .i64 0, .int .i64 0, .int .i64 0, .string ⟨#[]⟩, .int .i64 0, .int .i64 0, .slice none 0 0, .int .u32 0, .int .i64 0, .slice none 0 0] := by kernel_rfl
theorem st_lvT4 {W w : World} {l : List HProp} (hl : ∀ B ∈ l, Stable B) (q : Nat) (h : Sts W (srcP q lvT3 :: l) w) : Calls Try.prog 20 #[.pointer (some ⟨q, 0, none⟩), .int .i64 12] w fun e w' => e = .returned (.tuple #[.agg #[.int .i64 0, .int .i64 0, .int .i64 0, .int .i64 0, .string ⟨#[]⟩, .int .i64 0, .int .i64 0, .slice none 0 0, .int .u32 0, .int .i64 0, .slice none 0 0], .bool false]) ∧ Sts W (srcP q lvT4 :: l) w' := by
  refine (cNext hl q lvT3 h g_lvT3 12).mono ?_
  rintro e w' ⟨pa, pc, he, h'⟩
  rw [e_lvT4] at he h'
  rw [p_lvT4] at he
  exact ⟨he, h'.swap.tail⟩
theorem e_lvT5 : lvT4.nextV 13 = (lvT5, .eof 0) := by kernel_rfl
theorem g_lvT5 : Fil.Good lvT5 := by have h := (g_lvT4.nextV 13); rw [e_lvT5] at h; exact h
theorem p_lvT5 (pa : Option Addr) (pc : Nat) : (Fil.U.pdu (lvT4.pass 13) pa pc (.eof 0)).cells = #[.int .i64 3, .int .i64 1, .int .i64 7, .int .i64 2, .string ⟨#[]⟩, .int .i64 5, .int .i64 0, .slice none 0 0, .int .u32 2252489540, .int .i64 0, .slice none 0 0] := by kernel_rfl
theorem st_lvT5 {W w : World} {l : List HProp} (hl : ∀ B ∈ l, Stable B) (q : Nat) (h : Sts W (srcP q lvT4 :: l) w) : Calls Try.prog 20 #[.pointer (some ⟨q, 0, none⟩), .int .i64 13] w fun e w' => e = .returned (.tuple #[.agg #[.int .i64 3, .int .i64 1, .int .i64 7, .int .i64 2, .string ⟨#[]⟩, .int .i64 5, .int .i64 0, .slice none 0 0, .int .u32 2252489540, .int .i64 0, .slice none 0 0], .bool true]) ∧ Sts W (srcP q lvT5 :: l) w' := by
  refine (cNext hl q lvT4 h g_lvT4 13).mono ?_
  rintro e w' ⟨pa, pc, he, h'⟩
  rw [e_lvT5] at he h'
  rw [p_lvT5] at he
  exact ⟨he, h'.swap.tail⟩
def lvP (b : Nat) : Fil.Pdu := { kind := 4, src := 1, num := 7, ga := some ⟨b, 0, none⟩, gaps := [(0, 0), (1, 4)], gc := 2 }
theorem e_take (b : Nat) : lvT5.takeV (lvP b) 14 = (lvT6, 0) := by kernel_rfl
theorem g_lvT6 : Fil.Good lvT6 := by have h := (g_lvT5.takeV (lvP 0) 14); rw [e_take] at h; exact h
theorem stTake {W w : World} {l : List HProp} (hl : ∀ B ∈ l, Stable B) (q b : Nat) (h : Sts W (srcP q lvT5 :: l) w) (hg : ∀ A y, Sts W (A :: l) y → RdR y (.slice (some ⟨b, 0, none⟩) 2 2) [(0, 0), (1, 4)]) :
    Calls Try.prog 25 #[.pointer (some ⟨q, 0, none⟩), .agg #[.int .i64 4, .int .i64 1, .int .i64 7, .int .i64 0, .string ⟨#[]⟩, .int .i64 0, .int .i64 0, .slice none 0 0, .int .u32 0, .int .i64 0, .slice (some ⟨b, 0, none⟩) 2 2], .int .i64 14] w fun e w' => e = .returned (.int .i64 0) ∧ Sts W (srcP q lvT6 :: l) w' := by
  have hc := cTake hl q lvT5 h g_lvT5 (lvP b) 14 (by show (0 : Nat) ≤ 1000000; omega) (by show (0 : Nat) < 1000000000; omega) (by show (2 : Nat) < 1000; omega) hg
  rw [e_take] at hc
  exact hc
theorem e_lvT7 : lvT6.nextV 14 = (lvT7, .head) := by kernel_rfl
theorem g_lvT7 : Fil.Good lvT7 := by have h := (g_lvT6.nextV 14); rw [e_lvT7] at h; exact h
theorem p_lvT7 (pa : Option Addr) (pc : Nat) : (Fil.U.pdu (lvT6.pass 14) pa pc (.head)).cells = #[.int .i64 1, .int .i64 1, .int .i64 7, .int .i64 2, .string ⟨#[120]⟩, .int .i64 5, .int .i64 0, .slice none 0 0, .int .u32 0, .int .i64 0, .slice none 0 0] := by kernel_rfl
theorem st_lvT7 {W w : World} {l : List HProp} (hl : ∀ B ∈ l, Stable B) (q : Nat) (h : Sts W (srcP q lvT6 :: l) w) : Calls Try.prog 20 #[.pointer (some ⟨q, 0, none⟩), .int .i64 14] w fun e w' => e = .returned (.tuple #[.agg #[.int .i64 1, .int .i64 1, .int .i64 7, .int .i64 2, .string ⟨#[120]⟩, .int .i64 5, .int .i64 0, .slice none 0 0, .int .u32 0, .int .i64 0, .slice none 0 0], .bool true]) ∧ Sts W (srcP q lvT7 :: l) w' := by
  refine (cNext hl q lvT6 h g_lvT6 14).mono ?_
  rintro e w' ⟨pa, pc, he, h'⟩
  rw [e_lvT7] at he h'
  rw [p_lvT7] at he
  exact ⟨he, h'.swap.tail⟩
theorem e_lvT8 : lvT7.nextV 14 = (lvT8, .piece 1 4) := by kernel_rfl
theorem g_lvT8 : Fil.Good lvT8 := by have h := (g_lvT7.nextV 14); rw [e_lvT8] at h; exact h
theorem p_lvT8 (pa : Option Addr) (pc : Nat) : (Fil.U.pdu (lvT7.pass 14) pa pc (.piece 1 4)).cells = #[.int .i64 2, .int .i64 1, .int .i64 7, .int .i64 0, .string ⟨#[]⟩, .int .i64 0, .int .i64 1, .slice pa 3 pc, .int .u32 0, .int .i64 0, .slice none 0 0] := by kernel_rfl
theorem d_lvT8 : Fil.U.data (lvT7.pass 14) (.piece 1 4) = [66, 67, 68] := by kernel_rfl
theorem st_lvT8 {W w : World} {l : List HProp} (hl : ∀ B ∈ l, Stable B) (q : Nat) (h : Sts W (srcP q lvT7 :: l) w) : Calls Try.prog 20 #[.pointer (some ⟨q, 0, none⟩), .int .i64 14] w fun e w' => ∃ pa pc, e = .returned (.tuple #[.agg #[.int .i64 2, .int .i64 1, .int .i64 7, .int .i64 0, .string ⟨#[]⟩, .int .i64 0, .int .i64 1, .slice pa 3 pc, .int .u32 0, .int .i64 0, .slice none 0 0], .bool true]) ∧ Sts W (srcP q lvT8 :: rowU pa pc [66, 67, 68] :: l) w' := by
  refine (cNext hl q lvT7 h g_lvT7 14).mono ?_
  rintro e w' ⟨pa, pc, he, h'⟩
  rw [e_lvT8] at he h'
  rw [p_lvT8] at he
  rw [d_lvT8] at h'
  exact ⟨pa, pc, he, h'⟩
theorem e_lvT9 : lvT8.nextV 24 = (lvT9, .eof 0) := by kernel_rfl
theorem g_lvT9 : Fil.Good lvT9 := by have h := (g_lvT8.nextV 24); rw [e_lvT9] at h; exact h
theorem p_lvT9 (pa : Option Addr) (pc : Nat) : (Fil.U.pdu (lvT8.pass 24) pa pc (.eof 0)).cells = #[.int .i64 3, .int .i64 1, .int .i64 7, .int .i64 2, .string ⟨#[]⟩, .int .i64 5, .int .i64 0, .slice none 0 0, .int .u32 2252489540, .int .i64 0, .slice none 0 0] := by kernel_rfl
theorem st_lvT9 {W w : World} {l : List HProp} (hl : ∀ B ∈ l, Stable B) (q : Nat) (h : Sts W (srcP q lvT8 :: l) w) : Calls Try.prog 20 #[.pointer (some ⟨q, 0, none⟩), .int .i64 24] w fun e w' => e = .returned (.tuple #[.agg #[.int .i64 3, .int .i64 1, .int .i64 7, .int .i64 2, .string ⟨#[]⟩, .int .i64 5, .int .i64 0, .slice none 0 0, .int .u32 2252489540, .int .i64 0, .slice none 0 0], .bool true]) ∧ Sts W (srcP q lvT9 :: l) w' := by
  refine (cNext hl q lvT8 h g_lvT8 24).mono ?_
  rintro e w' ⟨pa, pc, he, h'⟩
  rw [e_lvT9] at he h'
  rw [p_lvT9] at he
  exact ⟨he, h'.swap.tail⟩
theorem e_lvT10 : lvT9.nextV 34 = (lvT10, .non) := by kernel_rfl
theorem g_lvT10 : Fil.Good lvT10 := by have h := (g_lvT9.nextV 34); rw [e_lvT10] at h; exact h
theorem p_lvT10 (pa : Option Addr) (pc : Nat) : (Fil.U.pdu (lvT9.pass 34) pa pc (.non)).cells = #[.int .i64 0, .int .i64 0, .int .i64 0, .int .i64 0, .string ⟨#[]⟩, .int .i64 0, .int .i64 0, .slice none 0 0, .int .u32 0, .int .i64 0, .slice none 0 0] := by kernel_rfl
theorem st_lvT10 {W w : World} {l : List HProp} (hl : ∀ B ∈ l, Stable B) (q : Nat) (h : Sts W (srcP q lvT9 :: l) w) : Calls Try.prog 20 #[.pointer (some ⟨q, 0, none⟩), .int .i64 34] w fun e w' => e = .returned (.tuple #[.agg #[.int .i64 0, .int .i64 0, .int .i64 0, .int .i64 0, .string ⟨#[]⟩, .int .i64 0, .int .i64 0, .slice none 0 0, .int .u32 0, .int .i64 0, .slice none 0 0], .bool false]) ∧ Sts W (srcP q lvT10 :: l) w' := by
  refine (cNext hl q lvT9 h g_lvT9 34).mono ?_
  rintro e w' ⟨pa, pc, he, h'⟩
  rw [e_lvT10] at he h'
  rw [p_lvT10] at he
  exact ⟨he, h'.swap.tail⟩
end Go.Proofs.Ytfjadhkhmhnccaa
namespace Go.Proofs.Ytfjadhkhmhnccaa
open Go.RowKit Go.Proofs.Num
/-- A block known whole reads as its cells. -/
theorem Rds.blk {W : World} {l : List HProp} {b n : Nat} {cs : Array Value} {t : TypeId} {fr : Nat × Nat} (hn : cs.size = n) (hb : n ≤ 1000) (h : blkP b (.cells cs t fr) ∈ l) : Rds W l (.slice (some ⟨b, 0, none⟩) n n) cs.toList := by
  intro A w hs
  obtain ⟨F, hr⟩ := hs.tail.mem h
  refine ⟨some ⟨b, 0, none⟩, n, by simp [hn], ⟨by simp [hn], by unfold maxLen; omega⟩, fun j hj => ⟨b, 0, rfl, lt_of_heap hr.1, ?_⟩⟩
  simp only [World.cell?, hr.1, Nat.zero_add]
  simp
theorem RdsR.blk {W : World} {l : List HProp} {b : Nat} (h : blkP b (.cells #[.int .i64 0, .int .i64 0, .int .i64 1, .int .i64 4] 81 (0, 0)) ∈ l) : ∀ A y, Sts W (A :: l) y → RdR y (.slice (some ⟨b, 0, none⟩) 2 2) [(0, 0), (1, 4)] := by
  intro A y hs
  obtain ⟨F, hr⟩ := hs.tail.mem h
  refine ⟨some ⟨b, 0, none⟩, 2, rfl, ⟨Nat.le_refl _, by unfold maxLen; omega⟩, fun j hj => ⟨b, 0, rfl, lt_of_heap hr.1, ?_⟩⟩
  simp only [World.cell?, hr.1, Nat.zero_add]
  match j, hj with
  | 0, _ => exact ⟨rfl, rfl⟩
  | 1, _ => exact ⟨rfl, rfl⟩
theorem rowU_rd {W w : World} {l : List HProp} {pa : Option Addr} {pc : Nat} {d : List Nat} (h : Sts W (rowU pa pc d :: l) w) (hb : ∀ x ∈ d, x < 256) : RdB w (.slice pa d.length pc) d := ⟨Rd.of_own (Sts.rowOwn h) (u8s_len _), hb⟩
theorem cId27 (w : World) : Calls Try.prog 22 #[] w fun e w' => e = .returned (.agg #[.int .i64 1, .int .i64 7]) ∧ Below w.heap.size w w' := by
  have HB := hid ((Below.refl w.heap.size w).alloc (Nat.le_refl _) (.cells #[.int .i64 1, .int .i64 7] 23))
  go_enter Try.func22, Try.ntmps22
  go_wp2_with fail
  refine bodyPost_ret (v := .agg #[.int .i64 1, .int .i64 7]) ?_ rfl ⟨rfl, HB.out⟩
  simp [results, Try.results22, go_sem]
set_option maxRecDepth 100000 in
set_option maxHeartbeats 8000000 in
theorem cLives27 (w : World) : Calls Try.prog 14 #[] w fun e w' => e = .returned (.bool true) ∧ Below w.heap.size w w' := by
  have H0 := hid (Sts.nil w)
  go_enter Try.func14, Try.ntmps14
  have kc := fun (w : World) (C : Array Value) (n c : Nat) => Lib.run_convert_bytes_const (P := Try.prog) w 24 5 C n c Try.underlying24 Try.underlying5
  go_wp2_with (first | (go_at_call 22; refine (cId27 _).mono ?_; rintro e w1 ⟨rfl, hb⟩; have HH1 := hid (H0.out.quiet stab0 hb); clear hb H0))
  clear kc
  have HH2 := hid (HH1.out.alloc stab0 (.cells #[.int .u8 65, .int .u8 66, .int .u8 67, .int .u8 68, .int .u8 69] 5 (5, 6)))
  clear HH1
  generalize w1.alloc (.cells #[.int .u8 65, .int .u8 66, .int .u8 67, .int .u8 68, .int .u8 69] 5 (5, 6)) = w2 at *
  generalize w1.heap.size = bbw2 at *
  refine (cNewOk (stabC (blkP_stable _ _) stab0) 1 7 1 ⟨#[120]⟩ (.slice (some ⟨bbw2, 0, none⟩) 5 5) [65, 66, 67, 68, 69] 2 10 0 HH2.out ⟨Rds.blk rfl (by decide) (List.mem_cons_self ..), by decide⟩ (by show (1 : Nat) ≤ 1000000; omega) (by decide) (by kernel_rfl)).mono ?_
  rintro e w3 ⟨q1, rfl, h⟩
  replace h : Sts w (srcP q1 lvS :: _) w3 := h
  have HH3 := hid (Sts.tail h.swap)
  clear HH2 h
  have kc := fun (w : World) (C : Array Value) (n c : Nat) => Lib.run_convert_bytes_const (P := Try.prog) w 24 5 C n c Try.underlying24 Try.underlying5
  go_wp2_with (first | (go_at_call 22; refine (cId27 _).mono ?_; rintro e w4 ⟨rfl, hb⟩; have HH4 := hid (HH3.out.quiet (stabC (srcP_stable _ _) stab0) hb); clear hb HH3))
  clear kc
  have HH5 := hid (HH4.out.alloc (stabC (srcP_stable _ _) stab0) (.cells #[.int .u8 65, .int .u8 66, .int .u8 67, .int .u8 68, .int .u8 69] 5 (5, 6)))
  clear HH4
  generalize w4.alloc (.cells #[.int .u8 65, .int .u8 66, .int .u8 67, .int .u8 68, .int .u8 69] 5 (5, 6)) = w5 at *
  generalize w4.heap.size = bbw5 at *
  refine (cNewOk (stabC (blkP_stable _ _) (stabC (srcP_stable _ _) stab0)) 1 7 2 ⟨#[120]⟩ (.slice (some ⟨bbw5, 0, none⟩) 5 5) [65, 66, 67, 68, 69] 5 10 1 HH5.out ⟨Rds.blk rfl (by decide) (List.mem_cons_self ..), by decide⟩ (by show (1 : Nat) ≤ 1000000; omega) (by decide) (by kernel_rfl)).mono ?_
  rintro e w6 ⟨q2, rfl, h⟩
  replace h : Sts w (srcP q2 lvT :: _) w6 := h
  have HH6 := hid (Sts.tail h.swap)
  clear HH5 h
  go_wp2_with (first | (go_at_call 22; refine (cId27 _).mono ?_; rintro e w7 ⟨rfl, hb⟩; have HH7 := hid (HH6.out.quiet (stabC (srcP_stable _ _) (stabC (srcP_stable _ _) stab0)) hb); clear hb HH6))
  refine (cNewBad (stabC (srcP_stable _ _) (stabC (srcP_stable _ _) stab0)) 1 7 3 ⟨#[120]⟩ (.slice none 0 0) [] 5 10 0 HH7.out ⟨Rds.arg (Rd.nil _ _ _ (by unfold maxLen; omega)), by simp⟩ (by show (1 : Nat) ≤ 1000000; omega) (by kernel_rfl)).mono ?_
  rintro e w8 ⟨rfl, h⟩
  have HH8 := hid (h)
  clear HH7 h
  go_wp2_with fail
  refine (st_lvS1 (stabC (srcP_stable _ _) stab0) q1 (HH8.out.perm (List.perm_middle (l₁ := [_]) (l₂ := _)))).mono ?_
  rintro e w9 ⟨rfl, h⟩
  have HH9 := hid (h)
  clear HH8 h
  go_wp2_with fail
  have HH10 := hid (HH9.out.alloc (stabC (srcP_stable _ _) (stabC (srcP_stable _ _) stab0)) (.cells #[.int .i64 1, .int .i64 1, .int .i64 7, .int .i64 1, .string ⟨#[120]⟩, .int .i64 5, .int .i64 0, .slice none 0 0, .int .u32 0, .int .i64 0, .slice none 0 0] 45))
  clear HH9
  generalize w9.alloc (.cells #[.int .i64 1, .int .i64 1, .int .i64 7, .int .i64 1, .string ⟨#[120]⟩, .int .i64 5, .int .i64 0, .slice none 0 0, .int .u32 0, .int .i64 0, .slice none 0 0] 45) = w10 at *
  generalize w9.heap.size = bA at *
  refine (st_lvS2 (stabC (blkP_stable _ _) (stabC (srcP_stable _ _) stab0)) q1 (HH10.out.perm (List.perm_middle (l₁ := [_]) (l₂ := _)))).mono ?_
  rintro e w11 ⟨palvS2, pclvS2, rfl, h⟩
  have HH11 := hid (h)
  clear HH10 h
  go_wp2_with fail
  have HH12 := hid (HH11.out.alloc (stabC (srcP_stable _ _) (stabC (rowU_stable _ _ _) (stabC (blkP_stable _ _) (stabC (srcP_stable _ _) stab0)))) (.cells #[.int .i64 2, .int .i64 1, .int .i64 7, .int .i64 0, .string ⟨#[]⟩, .int .i64 0, .int .i64 0, .slice palvS2 2 pclvS2, .int .u32 0, .int .i64 0, .slice none 0 0] 45))
  clear HH11
  generalize w11.alloc (.cells #[.int .i64 2, .int .i64 1, .int .i64 7, .int .i64 0, .string ⟨#[]⟩, .int .i64 0, .int .i64 0, .slice palvS2 2 pclvS2, .int .u32 0, .int .i64 0, .slice none 0 0] 45) = w12 at *
  generalize w11.heap.size = bB at *
  refine (st_lvS3 (stabC (blkP_stable _ _) (stabC (rowU_stable _ _ _) (stabC (blkP_stable _ _) (stabC (srcP_stable _ _) stab0)))) q1 (HH12.out.perm (List.perm_middle (l₁ := [_]) (l₂ := _)))).mono ?_
  rintro e w13 ⟨palvS3, pclvS3, rfl, h⟩
  have HH13 := hid (h)
  clear HH12 h
  go_wp2_with fail
  refine (st_lvS4 (stabC (rowU_stable _ _ _) (stabC (blkP_stable _ _) (stabC (rowU_stable _ _ _) (stabC (blkP_stable _ _) (stabC (srcP_stable _ _) stab0))))) q1 HH13.out).mono ?_
  rintro e w14 ⟨palvS4, pclvS4, rfl, h⟩
  have HH14 := hid (h)
  clear HH13 h
  go_wp2_with fail
  have HH15 := hid (HH14.out.alloc (stabC (srcP_stable _ _) (stabC (rowU_stable _ _ _) (stabC (rowU_stable _ _ _) (stabC (blkP_stable _ _) (stabC (rowU_stable _ _ _) (stabC (blkP_stable _ _) (stabC (srcP_stable _ _) stab0))))))) (.cells #[.int .i64 2, .int .i64 1, .int .i64 7, .int .i64 0, .string ⟨#[]⟩, .int .i64 0, .int .i64 4, .slice palvS4 1 pclvS4, .int .u32 0, .int .i64 0, .slice none 0 0] 45))
  clear HH14
  generalize w14.alloc (.cells #[.int .i64 2, .int .i64 1, .int .i64 7, .int .i64 0, .string ⟨#[]⟩, .int .i64 0, .int .i64 4, .slice palvS4 1 pclvS4, .int .u32 0, .int .i64 0, .slice none 0 0] 45) = w15 at *
  generalize w14.heap.size = bC at *
  refine (st_lvS5 (stabC (blkP_stable _ _) (stabC (rowU_stable _ _ _) (stabC (rowU_stable _ _ _) (stabC (blkP_stable _ _) (stabC (rowU_stable _ _ _) (stabC (blkP_stable _ _) (stabC (srcP_stable _ _) stab0))))))) q1 (HH15.out.perm (List.perm_middle (l₁ := [_]) (l₂ := _)))).mono ?_
  rintro e w16 ⟨rfl, h⟩
  have HH16 := hid (h)
  clear HH15 h
  have HH17 := hid (HH16.out.alloc (stabC (srcP_stable _ _) (stabC (blkP_stable _ _) (stabC (rowU_stable _ _ _) (stabC (rowU_stable _ _ _) (stabC (blkP_stable _ _) (stabC (rowU_stable _ _ _) (stabC (blkP_stable _ _) (stabC (srcP_stable _ _) stab0)))))))) (.cells #[.int .i64 3, .int .i64 1, .int .i64 7, .int .i64 1, .string ⟨#[]⟩, .int .i64 5, .int .i64 0, .slice none 0 0, .int .u32 2252489540, .int .i64 0, .slice none 0 0] 45))
  clear HH16
  have fA0 := (Sts.boxCell (HH17.out.perm (List.perm_middle (l₁ := [_, _, _, _, _, _, _]) (l₂ := _))) 0 _ rfl).1
  have fA5 := (Sts.boxCell (HH17.out.perm (List.perm_middle (l₁ := [_, _, _, _, _, _, _]) (l₂ := _))) 5 _ rfl).1
  have fB7 := (Sts.boxCell (HH17.out.perm (List.perm_middle (l₁ := [_, _, _, _, _]) (l₂ := _))) 7 _ rfl).1
  have fC6 := (Sts.boxCell (HH17.out.perm (List.perm_middle (l₁ := [_, _]) (l₂ := _))) 6 _ rfl).1
  have fC7 := (Sts.boxCell (HH17.out.perm (List.perm_middle (l₁ := [_, _]) (l₂ := _))) 7 _ rfl).1
  have fD0 := (Sts.boxCell HH17.out 0 _ rfl).1
  have fD8 := (Sts.boxCell HH17.out 8 _ rfl).1
  have cvlvS2 : (convert 24 9 (.slice palvS2 2 pclvS2)).run Try.prog (w16.alloc (.cells #[.int .i64 3, .int .i64 1, .int .i64 7, .int .i64 1, .string ⟨#[]⟩, .int .i64 5, .int .i64 0, .slice none 0 0, .int .u32 2252489540, .int .i64 0, .slice none 0 0] 45)) = .ok (.string ⟨#[65, 66]⟩) (w16.alloc (.cells #[.int .i64 3, .int .i64 1, .int .i64 7, .int .i64 1, .string ⟨#[]⟩, .int .i64 5, .int .i64 0, .slice none 0 0, .int .u32 2252489540, .int .i64 0, .slice none 0 0] 45)) := RdB.str (rowU_rd (HH17.out.perm (List.perm_middle (l₁ := [_, _, _, _, _, _]) (l₂ := _))) (by decide)) 24 9 5 Try.underlying24 Try.underlying5 Try.underlying9
  have cvlvS4 : (convert 24 9 (.slice palvS4 1 pclvS4)).run Try.prog (w16.alloc (.cells #[.int .i64 3, .int .i64 1, .int .i64 7, .int .i64 1, .string ⟨#[]⟩, .int .i64 5, .int .i64 0, .slice none 0 0, .int .u32 2252489540, .int .i64 0, .slice none 0 0] 45)) = .ok (.string ⟨#[69]⟩) (w16.alloc (.cells #[.int .i64 3, .int .i64 1, .int .i64 7, .int .i64 1, .string ⟨#[]⟩, .int .i64 5, .int .i64 0, .slice none 0 0, .int .u32 2252489540, .int .i64 0, .slice none 0 0] 45)) := RdB.str (rowU_rd (HH17.out.perm (List.perm_middle (l₁ := [_, _, _]) (l₂ := _))) (by decide)) 24 9 5 Try.underlying24 Try.underlying5 Try.underlying9
  have hst := cStateS q1 lvS5 (HH17.out.perm (List.perm_middle (l₁ := [_]) (l₂ := _)))
  rw [show lvS5.stateV = 4 by kernel_rfl] at hst
  have HST := hid hst
  clear hst
  go_wp2_with (first | (go_at_call 17; refine HST.out.mono ?_; rintro e w0 ⟨rfl, rfl⟩))
  clear HST fA0 fA5 fB7 fC6 fC7 fD0 fD8 cvlvS2 cvlvS4
  generalize w16.alloc (.cells #[.int .i64 3, .int .i64 1, .int .i64 7, .int .i64 1, .string ⟨#[]⟩, .int .i64 5, .int .i64 0, .slice none 0 0, .int .u32 2252489540, .int .i64 0, .slice none 0 0] 45) = w17 at *
  generalize w16.heap.size = bD at *
  have HH18 := hid ((Sts.tail (Sts.swap (Sts.tail (Sts.swap (Sts.tail (Sts.swap (Sts.tail (Sts.swap (Sts.tail (Sts.swap (Sts.tail (Sts.swap (Sts.tail (Sts.swap (Sts.tail (Sts.swap (HH17.out.perm (List.perm_middle (l₁ := [_, _, _, _, _, _, _, _]) (l₂ := _))))))))))))))))))))
  clear HH17
  refine (st_lvT1 stab0 q2 HH18.out).mono ?_
  rintro e w18 ⟨rfl, h⟩
  have HH19 := hid (h)
  clear HH18 h
  go_wp2_with fail
  refine (st_lvT2 stab0 q2 HH19.out).mono ?_
  rintro e w19 ⟨palvT2, pclvT2, rfl, h⟩
  have HH20 := hid (h)
  clear HH19 h
  go_wp2_with fail
  refine (st_lvT3 (stabC (rowU_stable _ _ _) stab0) q2 HH20.out).mono ?_
  rintro e w20 ⟨rfl, h⟩
  have HH21 := hid (h)
  clear HH20 h
  go_wp2_with fail
  refine (st_lvT4 (stabC (rowU_stable _ _ _) stab0) q2 HH21.out).mono ?_
  rintro e w21 ⟨rfl, h⟩
  have HH22 := hid (h)
  clear HH21 h
  go_wp2_with fail
  have HH23 := hid (HH22.out.alloc (stabC (srcP_stable _ _) (stabC (rowU_stable _ _ _) stab0)) (.cells #[.int .i64 0, .int .i64 0, .int .i64 0, .int .i64 0, .string ⟨#[]⟩, .int .i64 0, .int .i64 0, .slice none 0 0, .int .u32 0, .int .i64 0, .slice none 0 0] 45))
  clear HH22
  generalize w21.alloc (.cells #[.int .i64 0, .int .i64 0, .int .i64 0, .int .i64 0, .string ⟨#[]⟩, .int .i64 0, .int .i64 0, .slice none 0 0, .int .u32 0, .int .i64 0, .slice none 0 0] 45) = w22 at *
  generalize w21.heap.size = bE at *
  refine (st_lvT5 (stabC (blkP_stable _ _) (stabC (rowU_stable _ _ _) stab0)) q2 (HH23.out.perm (List.perm_middle (l₁ := [_]) (l₂ := _)))).mono ?_
  rintro e w23 ⟨rfl, h⟩
  have HH24 := hid (h)
  clear HH23 h
  go_wp2_with fail
  have HH25 := hid (HH24.out.alloc (stabC (srcP_stable _ _) (stabC (blkP_stable _ _) (stabC (rowU_stable _ _ _) stab0))) (.cells #[.int .i64 3, .int .i64 1, .int .i64 7, .int .i64 2, .string ⟨#[]⟩, .int .i64 5, .int .i64 0, .slice none 0 0, .int .u32 2252489540, .int .i64 0, .slice none 0 0] 45))
  clear HH24
  generalize w23.alloc (.cells #[.int .i64 3, .int .i64 1, .int .i64 7, .int .i64 2, .string ⟨#[]⟩, .int .i64 5, .int .i64 0, .slice none 0 0, .int .u32 2252489540, .int .i64 0, .slice none 0 0] 45) = w24 at *
  generalize w23.heap.size = bUU at *
  refine (cId27 _).mono ?_
  rintro e w25 ⟨rfl, hb⟩
  have HH26 := hid (HH25.out.quiet (stabC (blkP_stable _ _) (stabC (srcP_stable _ _) (stabC (blkP_stable _ _) (stabC (rowU_stable _ _ _) stab0)))) hb)
  clear hb HH25
  go_wp2_with fail
  have HH27 := hid (HH26.out.alloc (stabC (blkP_stable _ _) (stabC (srcP_stable _ _) (stabC (blkP_stable _ _) (stabC (rowU_stable _ _ _) stab0)))) (.cells #[.int .i64 0, .int .i64 0, .int .i64 1, .int .i64 4] 81))
  clear HH26
  generalize w25.alloc (.cells #[.int .i64 0, .int .i64 0, .int .i64 1, .int .i64 4] 81) = w26 at *
  generalize w25.heap.size = bGG at *
  refine (stTake (stabC (blkP_stable _ _) (stabC (blkP_stable _ _) (stabC (blkP_stable _ _) (stabC (rowU_stable _ _ _) stab0)))) q2 bGG (HH27.out.perm (List.perm_middle (l₁ := [_, _]) (l₂ := _))) (RdsR.blk (by simp))).mono ?_
  rintro e w27 ⟨rfl, h⟩
  have HH28 := hid (h)
  clear HH27 h
  go_wp2_with fail
  refine (st_lvT7 (stabC (blkP_stable _ _) (stabC (blkP_stable _ _) (stabC (blkP_stable _ _) (stabC (rowU_stable _ _ _) stab0)))) q2 HH28.out).mono ?_
  rintro e w28 ⟨rfl, h⟩
  have HH29 := hid (h)
  clear HH28 h
  go_wp2_with fail
  have HH30 := hid (HH29.out.alloc (stabC (srcP_stable _ _) (stabC (blkP_stable _ _) (stabC (blkP_stable _ _) (stabC (blkP_stable _ _) (stabC (rowU_stable _ _ _) stab0))))) (.cells #[.int .i64 1, .int .i64 1, .int .i64 7, .int .i64 2, .string ⟨#[120]⟩, .int .i64 5, .int .i64 0, .slice none 0 0, .int .u32 0, .int .i64 0, .slice none 0 0] 45))
  clear HH29
  generalize w28.alloc (.cells #[.int .i64 1, .int .i64 1, .int .i64 7, .int .i64 2, .string ⟨#[120]⟩, .int .i64 5, .int .i64 0, .slice none 0 0, .int .u32 0, .int .i64 0, .slice none 0 0] 45) = w29 at *
  generalize w28.heap.size = bMM at *
  refine (st_lvT8 (stabC (blkP_stable _ _) (stabC (blkP_stable _ _) (stabC (blkP_stable _ _) (stabC (blkP_stable _ _) (stabC (rowU_stable _ _ _) stab0))))) q2 (HH30.out.perm (List.perm_middle (l₁ := [_]) (l₂ := _)))).mono ?_
  rintro e w30 ⟨palvT8, pclvT8, rfl, h⟩
  have HH31 := hid (h)
  clear HH30 h
  go_wp2_with fail
  have HH32 := hid (HH31.out.alloc (stabC (srcP_stable _ _) (stabC (rowU_stable _ _ _) (stabC (blkP_stable _ _) (stabC (blkP_stable _ _) (stabC (blkP_stable _ _) (stabC (blkP_stable _ _) (stabC (rowU_stable _ _ _) stab0))))))) (.cells #[.int .i64 2, .int .i64 1, .int .i64 7, .int .i64 0, .string ⟨#[]⟩, .int .i64 0, .int .i64 1, .slice palvT8 3 pclvT8, .int .u32 0, .int .i64 0, .slice none 0 0] 45))
  clear HH31
  generalize w30.alloc (.cells #[.int .i64 2, .int .i64 1, .int .i64 7, .int .i64 0, .string ⟨#[]⟩, .int .i64 0, .int .i64 1, .slice palvT8 3 pclvT8, .int .u32 0, .int .i64 0, .slice none 0 0] 45) = w31 at *
  generalize w30.heap.size = bNN at *
  refine (st_lvT9 (stabC (blkP_stable _ _) (stabC (rowU_stable _ _ _) (stabC (blkP_stable _ _) (stabC (blkP_stable _ _) (stabC (blkP_stable _ _) (stabC (blkP_stable _ _) (stabC (rowU_stable _ _ _) stab0))))))) q2 (HH32.out.perm (List.perm_middle (l₁ := [_]) (l₂ := _)))).mono ?_
  rintro e w32 ⟨rfl, h⟩
  have HH33 := hid (h)
  clear HH32 h
  go_wp2_with fail
  refine (st_lvT10 (stabC (blkP_stable _ _) (stabC (rowU_stable _ _ _) (stabC (blkP_stable _ _) (stabC (blkP_stable _ _) (stabC (blkP_stable _ _) (stabC (blkP_stable _ _) (stabC (rowU_stable _ _ _) stab0))))))) q2 HH33.out).mono ?_
  rintro e w33 ⟨rfl, h⟩
  have HH34 := hid (h)
  clear HH33 h
  have HH35 := hid (HH34.out.alloc (stabC (srcP_stable _ _) (stabC (blkP_stable _ _) (stabC (rowU_stable _ _ _) (stabC (blkP_stable _ _) (stabC (blkP_stable _ _) (stabC (blkP_stable _ _) (stabC (blkP_stable _ _) (stabC (rowU_stable _ _ _) stab0)))))))) (.cells #[.int .i64 0, .int .i64 0, .int .i64 0, .int .i64 0, .string ⟨#[]⟩, .int .i64 0, .int .i64 0, .slice none 0 0, .int .u32 0, .int .i64 0, .slice none 0 0] 45))
  clear HH34
  have fUU0 := (Sts.boxCell (HH35.out.perm (List.perm_middle (l₁ := [_, _, _, _, _, _]) (l₂ := _))) 0 _ rfl).1
  have fMM0 := (Sts.boxCell (HH35.out.perm (List.perm_middle (l₁ := [_, _, _, _]) (l₂ := _))) 0 _ rfl).1
  have fNN6 := (Sts.boxCell (HH35.out.perm (List.perm_middle (l₁ := [_, _]) (l₂ := _))) 6 _ rfl).1
  have fNN7 := (Sts.boxCell (HH35.out.perm (List.perm_middle (l₁ := [_, _]) (l₂ := _))) 7 _ rfl).1
  have cv8 : (convert 24 9 (.slice palvT8 3 pclvT8)).run Try.prog (w33.alloc (.cells #[.int .i64 0, .int .i64 0, .int .i64 0, .int .i64 0, .string ⟨#[]⟩, .int .i64 0, .int .i64 0, .slice none 0 0, .int .u32 0, .int .i64 0, .slice none 0 0] 45)) = .ok (.string ⟨#[66, 67, 68]⟩) (w33.alloc (.cells #[.int .i64 0, .int .i64 0, .int .i64 0, .int .i64 0, .string ⟨#[]⟩, .int .i64 0, .int .i64 0, .slice none 0 0, .int .u32 0, .int .i64 0, .slice none 0 0] 45)) := RdB.str (rowU_rd (HH35.out.perm (List.perm_middle (l₁ := [_, _, _]) (l₂ := _))) (by decide)) 24 9 5 Try.underlying24 Try.underlying5 Try.underlying9
  have hst := cStateS q2 lvT10 (HH35.out.perm (List.perm_middle (l₁ := [_]) (l₂ := _)))
  rw [show lvT10.stateV = 5 by kernel_rfl] at hst
  have HST := hid hst
  clear hst
  have hcd := cCodeS q2 lvT10 (HH35.out.perm (List.perm_middle (l₁ := [_]) (l₂ := _)))
  rw [show lvT10.code = 10 by kernel_rfl] at hcd
  have HCD := hid hcd
  clear hcd
  go_wp2_with (first | (go_at_call 17; refine HST.out.mono ?_; rintro e w0 ⟨rfl, rfl⟩) | (go_at_call 19; refine HCD.out.mono ?_; rintro e w0 ⟨rfl, rfl⟩))
  go_ret
  exact ⟨rfl, HH35.out.below⟩
end Go.Proofs.Ytfjadhkhmhnccaa
