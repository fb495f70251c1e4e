/- The contract of the vault's Save, whole. -/
import Derived.Test.YtdboplkgnnidcaaVltSave
set_option linter.unusedVariables false
namespace Go.Proofs.Ytdboplkgnnidcaa
open Go.RowKit Go.Proofs.Num
theorem cSave {W w : World} {l : List HProp} (hl : ∀ B ∈ l, Stable B) (q p at' half K : Nat) (want : List Nat) (hK : K < 100000000000) (hh : 4 ≤ half) (hat : at' + 2 * half ≤ want.length) (hw : want.length ≤ 65536)
    (hs : Sts W (vaultP q p at' half :: wordP p K want :: l) w) (v : Value) (b : List Nat) (hb : RdsB W (wordP p K want :: l) v b) (cut : Int) :
    Calls Try.prog 33 #[.pointer (some ⟨q, 0, none⟩), v, .int .i64 cut] w (SaveEnd W q p at' half K want l b cut) := by
  have hE : ∀ x e w', Vlt.saveV want at' half b cut = x → e = Ending.returned (.int .i64 (x.1 : Nat)) → Sts W (vaultP q p at' half :: wordP p K x.2 :: l) w' → SaveEnd W q p at' half K want l b cut e w' := by
    rintro x e w' rfl h1 h2; exact ⟨h1, h2⟩
  by_cases h1 : 4 * ((half : Int) - 3) < b.length
  · refine (cSaveLong hl q p at' half K want hK hh hat hw hs v b hb cut h1).mono ?_
    rintro e w' ⟨he, hs'⟩
    exact hE (6, want) e w' (by unfold Vlt.saveV; rw [if_pos h1]) he hs'
  · by_cases h2 : 4294967295 ≤ (Vlt.newV want at' half).2.1
    · refine (cSaveFull hl q p at' half K want hK hh hat hw hs v b hb cut h1 h2).mono ?_
      rintro e w' ⟨he, hs'⟩
      exact hE (7, want) e w' (by unfold Vlt.saveV; rw [if_neg h1, if_pos h2]) he hs'
    · refine (cSaveDoes hl q p at' half K want hK hh hat hw hs v b hb cut (Vlt.doneV (Vlt.wordsV ((Vlt.newV want at' half).2.1 + 1) b).length cut) _ _ h1 (by omega) rfl rfl ?_).mono ?_
      · unfold Vlt.doneV
        split <;> omega
      · rintro e w' ⟨he, hs'⟩
        refine hE _ e w' (by unfold Vlt.saveV; rw [if_neg h1, if_neg h2]) ?_ hs'
        rw [he]; simp only []; split <;> rfl
end Go.Proofs.Ytdboplkgnnidcaa
