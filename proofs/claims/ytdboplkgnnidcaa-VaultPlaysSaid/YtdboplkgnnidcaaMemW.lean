/- A memory of the program that reads as a list of words, each with at most one inverted bit; what the calls on it do. -/
import Derived.Test.YtdboplkgnnidcaaMemSpec
import Derived.Test.YtdboplkgnnidcaaMemHold
import Derived.Test.YtdboplkgnnidcaaSepb
set_option linter.unusedVariables false
namespace Go.Proofs.Ytdboplkgnnidcaa
open Go.RowKit Go.Proofs.Num
/-- Block p is a memory with the words want, of which those marked in up have an inverted bit; there have been at most K upsets. -/
def heldP (p K : Nat) (want : List Nat) (up : List Bool) : HProp := fun w F => ∃ ws c, Ecc.Held ws want up want.length ∧ c + up.count true ≤ K ∧ memP p ws c w F
def wordP (p K : Nat) (want : List Nat) : HProp := fun w F => ∃ up, heldP p K want up w F
theorem heldP_stable (p K : Nat) (want : List Nat) (up : List Bool) : Stable (heldP p K want up) where
  dom := by rintro w F ⟨ws, c, _, _, h⟩; exact (memP_stable p ws c).dom h
  keep := by rintro w w' F S ⟨ws, c, h1, h2, h⟩ hk hS; exact ⟨ws, c, h1, h2, (memP_stable p ws c).keep h hk hS⟩
theorem wordP_stable (p K : Nat) (want : List Nat) : Stable (wordP p K want) where
  dom := by rintro w F ⟨up, h⟩; exact (heldP_stable p K want up).dom h
  keep := by rintro w w' F S ⟨up, h⟩ hk hS; exact ⟨up, (heldP_stable p K want up).keep h hk hS⟩
theorem heldP.word {p K : Nat} {want : List Nat} {up : List Bool} {w : World} {F : Nat → Prop} (h : heldP p K want up w F) : wordP p K want w F := ⟨up, h⟩
theorem heldP.mono {p K K' : Nat} {want : List Nat} {up : List Bool} {w : World} {F : Nat → Prop} (h : heldP p K want up w F) (hK : K ≤ K') : heldP p K' want up w F := by
  obtain ⟨ws, c, h1, h2, h3⟩ := h; exact ⟨ws, c, h1, by omega, h3⟩
theorem wordP.val {p K : Nat} {want : List Nat} {w : World} {F : Nat → Prop} (h : wordP p K want w F) : ∀ x ∈ want, x < 4294967296 := by
  obtain ⟨up, ws, c, h, _⟩ := h
  intro x hx
  obtain ⟨i, hi, rfl⟩ := List.getElem_of_mem hx
  have := h.val i hi
  simpa [List.getD, hi] using this
theorem wordP.few {p K : Nat} {want : List Nat} {w : World} {F : Nat → Prop} (h : wordP p K want w F) : want.length ≤ 65536 := by
  obtain ⟨up, ws, c, h, _, g, cap, hm, _⟩ := h
  have := hm.few; rw [h.l1] at this; exact this
theorem count_set_false (up : List Bool) (i : Nat) (h : i < up.length) (c : Nat) : c + (if up.getD i false then 1 else 0) + (up.set i false).count true = c + up.count true := by
  have := Ecc.count_false up i h; omega
section
variable {p K : Nat} {want : List Nat} (hK : K < 100000000000)
include hK
theorem hRead (up : List Bool) (i : Nat) (hi : i < want.length) : HSpecV Try.prog 36 #[.pointer (some ⟨p, 0, none⟩), .int .i64 i] (heldP p K want up) (.tuple #[.int .u32 (want.getD i 0 : Nat), .int .i64 0]) (heldP p K want (up.set i false)) := by
  rintro w F ⟨ws, c, h1, h2, h3⟩
  have k := s32 p c ws i (by omega) w F h3
  rw [h1.read c i hi] at k
  refine k.mono ?_
  rintro e w' ⟨a, F', he, hm, r⟩
  refine ⟨a, F', he, ⟨_, _, h1.clean i hi, ?_, hm⟩, r⟩
  rw [count_set_false up i (by rw [h1.l3]; exact hi)]; exact h2
theorem wRead (i : Nat) (hi : i < want.length) : HSpecV Try.prog 36 #[.pointer (some ⟨p, 0, none⟩), .int .i64 i] (wordP p K want) (.tuple #[.int .u32 (want.getD i 0 : Nat), .int .i64 0]) (wordP p K want) := by
  rintro w F ⟨up, h⟩
  refine (hRead hK up i hi w F h).mono ?_
  rintro e w' ⟨a, F', he, hm, r⟩
  exact ⟨a, F', he, hm.word, r⟩
theorem wReadOut (i : Int) (hi : i < 0 ∨ (want.length : Int) ≤ i) : HSpecV Try.prog 36 #[.pointer (some ⟨p, 0, none⟩), .int .i64 i] (wordP p K want) (.tuple #[.int .u32 0, .int .i64 1]) (wordP p K want) := by
  rintro w F ⟨up, ws, c, h1, h2, h3⟩
  have k := s32 p c ws i (by omega) w F h3
  have e1 : Ecc.mread ws c i = (0, 1, ws, c) := by
    unfold Ecc.mread; rw [if_pos]; rw [out_yes]; rw [h1.l1]; exact hi
  rw [e1] at k
  refine k.mono ?_
  rintro e w' ⟨a, F', he, hm, r⟩
  exact ⟨a, F', he, ⟨up, ws, c, h1, h2, hm⟩, r⟩
omit hK in
theorem hWrite (up : List Bool) (i v : Nat) (hi : i < want.length) (hv : v < 4294967296) : HSpecV Try.prog 29 #[.pointer (some ⟨p, 0, none⟩), .int .i64 i, .int .u32 v] (heldP p K want up) (.int .i64 0) (heldP p K (want.set i v) (up.set i false)) := by
  rintro w F ⟨ws, c, h1, h2, h3⟩
  have k := s33 p c ws i v hv w F h3
  have hw := h1.write i v hi hv
  rw [hw.1] at k
  refine k.mono ?_
  rintro e w' ⟨a, F', he, hm, r⟩
  refine ⟨a, F', he, ⟨_, _, by simpa using hw.2, ?_, hm⟩, r⟩
  have := Ecc.count_false up i (by rw [h1.l3]; exact hi); omega
omit hK in
theorem wWrite (i v : Nat) (hi : i < want.length) (hv : v < 4294967296) : HSpecV Try.prog 29 #[.pointer (some ⟨p, 0, none⟩), .int .i64 i, .int .u32 v] (wordP p K want) (.int .i64 0) (wordP p K (want.set i v)) := by
  rintro w F ⟨up, h⟩
  refine (hWrite up i v hi hv w F h).mono ?_
  rintro e w' ⟨a, F', he, hm, r⟩
  exact ⟨a, F', he, hm.word, r⟩
omit hK in
theorem hFlip (up : List Bool) (i b : Nat) (hi : i < want.length) (hb : b < 39) (hu : up.getD i false = false) : HSpecV Try.prog 26 #[.pointer (some ⟨p, 0, none⟩), .int .i64 i, .int .i64 b] (heldP p K want up) (.int .i64 0) (heldP p (K + 1) want (up.set i true)) := by
  rintro w F ⟨ws, c, h1, h2, h3⟩
  have k := s34 p c ws i b w F h3
  have hw := h1.flip i b hi hb hu
  rw [hw.1] at k
  refine k.mono ?_
  rintro e w' ⟨a, F', he, hm, r⟩
  refine ⟨a, F', he, ⟨_, _, hw.2, ?_, hm⟩, r⟩
  have hl : i < up.length := by rw [h1.l3]; exact hi
  rw [List.count_set hl]
  have e : up[i] = false := by have : up.getD i false = up[i] := by simp [List.getD, hl]
                               rw [← this]; exact hu
  simp [e]; omega
omit hK in
theorem wSize : HSpecV Try.prog 48 #[.pointer (some ⟨p, 0, none⟩)] (wordP p K want) (.int .i64 (want.length : Nat)) (wordP p K want) := by
  rintro w F ⟨up, ws, c, h1, h2, h3⟩
  refine (s28 p c ws w F h3).mono ?_
  rintro e w' ⟨a, F', he, hm, r⟩
  exact ⟨a, F', by rw [he, h1.l1], ⟨up, ws, c, h1, h2, hm⟩, r⟩
end
theorem clamp_nat (n : Nat) (h : n ≤ 65536) : clamp (n : Int) = n := by unfold clamp; rw [if_neg (by omega), if_neg (by omega)]; simp
theorem wNew (n : Nat) (h : n ≤ 65536) : HSpec Try.prog 20 #[.int .i64 n] emp (fun p : Nat => .pointer (some ⟨p, 0, none⟩)) (fun p => heldP p 0 (List.replicate n 0) (List.replicate n false)) := by
  intro w F hF
  refine (s27 n n (clamp_nat n h) w F hF).mono ?_
  rintro e w' ⟨p, F', he, hm, r⟩
  have hz := Ecc.held_zero n
  refine ⟨p, F', he, ⟨zeros n, 0, by rw [List.length_replicate]; exact hz, by simp [List.count_replicate], hm⟩, r⟩
end Go.Proofs.Ytdboplkgnnidcaa
