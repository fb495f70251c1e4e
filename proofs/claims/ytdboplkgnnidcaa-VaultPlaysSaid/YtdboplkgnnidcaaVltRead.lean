/- The contracts of the vault's methods that read: usable, Room; the prefix of a row. -/
import Derived.Test.YtdboplkgnnidcaaVltWords
import Derived.Test.YtdboplkgnnidcaaMemW
set_option linter.unusedVariables false
set_option linter.unusedSimpArgs false
namespace Go.Proofs.Ytdboplkgnnidcaa
open Go.RowKit Go.Proofs.Num
/-- A vault at block q: its memory at block p, its first word, half its length. -/
def vcells (p : Nat) (at' half : Nat) : Array Value := #[.pointer (some ⟨p, 0, none⟩), .int .i64 (at' : Nat), .int .i64 (half : Nat)]
def vaultP (q p at' half : Nat) : HProp := blkP q (.cells (vcells p at' half) 88 (0, 0))
structure VaultC (w : World) (q p at' half : Nat) : Prop where
  c0 : w.cell? ⟨q, 0, none⟩ = some (.pointer (some ⟨p, 0, none⟩))
  c1 : w.cell? ⟨q, 1, none⟩ = some (.int .i64 (at' : Nat))
  c2 : w.cell? ⟨q, 2, none⟩ = some (.int .i64 (half : Nat))
theorem Sts.vault {W w : World} {q p at' half : Nat} {l : List HProp} (h : Sts W (vaultP q p at' half :: l) w) : VaultC w q p at' half :=
  ⟨(Sts.boxCell h 0 _ rfl).1, (Sts.boxCell h 1 _ rfl).1, (Sts.boxCell h 2 _ rfl).1⟩
/-- The first words of a row. -/
theorem own_prefix {w : World} {b n k cap : Nat} {e : TypeId} {a : Option Addr} {xs : List Value} (h : w.ownsRow b e 1 (.slice a n cap) n xs) (hk : k ≤ n) (ha : a ≠ none) : w.ownsRow b e 1 (.slice a k cap) k (xs.take k) := by
  obtain ⟨h1, h2⟩ := h
  refine ⟨by rw [List.length_take]; omega, ?_⟩
  rcases h2 with ⟨h2, _⟩ | ⟨g, cap', cur, hv, hg, hc, hn, hm, hs, ht⟩
  · injection h2 with e1 _ _; exact absurd e1 ha
  · injection hv with e1 e2 e3
    subst e3
    refine Or.inr ⟨g, cap, cur, by rw [e1], hg, hc, by omega, hm, hs, ?_⟩
    rw [← ht, List.take_take]
    congr 1; omega
theorem cUsable (w : World) (q p : Nat) (c0 : w.cell? ⟨q, 0, none⟩ = some (.pointer (some ⟨p, 0, none⟩))) :
    Calls Try.prog 51 #[.pointer (some ⟨q, 0, none⟩)] w fun e w' => e = .returned (.bool true) ∧ w = w' := by
  go_enter Try.func51, Try.ntmps51
  go_wp2_with fail
  go_ret
  exact ⟨rfl, rfl⟩
theorem cUsableNil (w : World) :
    Calls Try.prog 51 #[.pointer none] w fun e w' => e = .returned (.bool false) ∧ w = w' := by
  go_enter Try.func51, Try.ntmps51
  go_wp2_with fail
  go_ret
  exact ⟨rfl, rfl⟩
theorem cRoom (w : World) (q p at' half : Nat) (hc : VaultC w q p at' half) (hh : half < 100000000) :
    Calls Try.prog 46 #[.pointer (some ⟨q, 0, none⟩)] w fun e w' => e = .returned (.int .i64 (4 * ((half : Int) - 3))) ∧ w = w' := by
  obtain ⟨c0, c1, c2⟩ := hc
  go_enter Try.func46, Try.ntmps46
  go_wp2_with fail
  refine (cUsable w q p c0).mono ?_
  rintro e w1 ⟨rfl, rfl⟩
  go_wp2_with fail
  go_ret
  exact ⟨rfl, rfl⟩
theorem cRoomNil (w : World) :
    Calls Try.prog 46 #[.pointer none] w fun e w' => e = .returned (.int .i64 0) ∧ w = w' := by
  go_enter Try.func46, Try.ntmps46
  go_wp2_with fail
  refine (cUsableNil w).mono ?_
  rintro e w1 ⟨rfl, rfl⟩
  go_wp2_with fail
  go_ret
  exact ⟨rfl, rfl⟩
end Go.Proofs.Ytdboplkgnnidcaa
