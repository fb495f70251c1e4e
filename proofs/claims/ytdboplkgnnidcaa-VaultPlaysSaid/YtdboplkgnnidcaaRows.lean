/-
  No cell of these rows narrows 'for every input' (looked for: loops, veiled, ifaces, maps, wideKeys, modest, calm, conditions, laid).
  DERIVED. THE GIVEN ROWS OF THIS SEAT. 8 by the template 'for every input the law returns true; each argument reads behind the call as it read before'; 0 by the template 'total and deterministic' (their statements: YtdboplkgnnidcaaTotals.lean).
  GIVEN WITH THE SEED: the statements are not yours to turn. If you find one false, say at which input.
  Laid BY PROGRAM, IN A SANDBOX (cutbox-rows.mjs): the forced cells as the released guide's own fill.sh prints them over the translation 96d19c7875b680a1… (all of the seat's roots in one cut). By AI agents, Wed Nov 11 2026. No macro, syntax, notation, axiom, sorry.
-/
import Derived.Test.YtdboplkgnnidcaaChecked
import GoSem.Claim
import GoSem.ClaimJoined
import GoSem.ClaimMapViews
import Derived.JoinedTies
import Derived.KernelRfl
namespace Go.Proofs.Ytdboplkgnnidcaa
/- THE CELL 'sum', in the pinned program and in every row, IS THE sha256 OF THE DUMP (.gsa) THAT YtdboplkgnnidcaaProg.lean LOADS. Nothing in Lean hashes anything: it is a label: what it is worth is what the hold of that sum in a sandbox is worth. -/
noncomputable def Try.pinned : Pinned := { name := "ytdboplkgnnidcaa", sum := "96d19c7875b680a15bb520a8270def25b4c1c5b44cce0b1c121798e31fd4b194", checked := Try.checked }
namespace Rows
def none {H : Type} : Left H := { results := [], args := [] }

/-- 'spacecraftlaw31.PatchConverts': WHATEVER THE INPUT: true; the input reads as it did. -/
def patchConvertsSpec : ChangeSpec := { name := "patchConverts", fn := fun _ => fun
  | [d1, d2] => { results := [.lit (.bool true)], args := [d1, d2] }
  | _ => none }
def patchConvertsRow : OpenClaim := { program := "ytdboplkgnnidcaa", sum := "96d19c7875b680a15bb520a8270def25b4c1c5b44cce0b1c121798e31fd4b194", func := "spacecraft/spacecraftlaw31.PatchConverts", spec := "patchConverts", apart := false }
def PatchConvertsSaid : Prop := patchConvertsRow.holds Try.pinned (OpenSpec.ofChange patchConvertsSpec)

/-- ITS FALSE NEIGHBOUR: 'it returns false'. Refute it at one input. -/
def patchConvertsWrong : ChangeSpec := { name := "patchConverts", fn := fun _ => fun
  | [d1, d2] => { results := [.lit (.bool false)], args := [d1, d2] }
  | _ => none }
def PatchConvertsWrongFalsely : Prop := patchConvertsRow.holds Try.pinned (OpenSpec.ofChange patchConvertsWrong)

/-- 'spacecraftlaw31.PatchPlays': WHATEVER THE INPUT: true; the input reads as it did. -/
def patchPlaysSpec : ChangeSpec := { name := "patchPlays", fn := fun _ => fun
  | [d1, d2] => { results := [.lit (.bool true)], args := [d1, d2] }
  | _ => none }
def patchPlaysRow : OpenClaim := { program := "ytdboplkgnnidcaa", sum := "96d19c7875b680a15bb520a8270def25b4c1c5b44cce0b1c121798e31fd4b194", func := "spacecraft/spacecraftlaw31.PatchPlays", spec := "patchPlays", apart := false }
def PatchPlaysSaid : Prop := patchPlaysRow.holds Try.pinned (OpenSpec.ofChange patchPlaysSpec)

/-- ITS FALSE NEIGHBOUR: 'it returns false'. Refute it at one input. -/
def patchPlaysWrong : ChangeSpec := { name := "patchPlays", fn := fun _ => fun
  | [d1, d2] => { results := [.lit (.bool false)], args := [d1, d2] }
  | _ => none }
def PatchPlaysWrongFalsely : Prop := patchPlaysRow.holds Try.pinned (OpenSpec.ofChange patchPlaysWrong)

/-- 'spacecraftlaw31.PatchLoads': WHATEVER THE INPUT: true; the input reads as it did. -/
def patchLoadsSpec : ChangeSpec := { name := "patchLoads", fn := fun _ => fun
  | [d1, d2, d3] => { results := [.lit (.bool true)], args := [d1, d2, d3] }
  | _ => none }
def patchLoadsRow : OpenClaim := { program := "ytdboplkgnnidcaa", sum := "96d19c7875b680a15bb520a8270def25b4c1c5b44cce0b1c121798e31fd4b194", func := "spacecraft/spacecraftlaw31.PatchLoads", spec := "patchLoads", apart := false }
def PatchLoadsSaid : Prop := patchLoadsRow.holds Try.pinned (OpenSpec.ofChange patchLoadsSpec)

/-- ITS FALSE NEIGHBOUR: 'it returns false'. Refute it at one input. -/
def patchLoadsWrong : ChangeSpec := { name := "patchLoads", fn := fun _ => fun
  | [d1, d2, d3] => { results := [.lit (.bool false)], args := [d1, d2, d3] }
  | _ => none }
def PatchLoadsWrongFalsely : Prop := patchLoadsRow.holds Try.pinned (OpenSpec.ofChange patchLoadsWrong)

/-- 'spacecraftlaw31.PatchTells': WHATEVER THE INPUT: true; the input reads as it did. -/
def patchTellsSpec : ChangeSpec := { name := "patchTells", fn := fun _ => fun
  | [d1, d2, d3] => { results := [.lit (.bool true)], args := [d1, d2, d3] }
  | _ => none }
def patchTellsRow : OpenClaim := { program := "ytdboplkgnnidcaa", sum := "96d19c7875b680a15bb520a8270def25b4c1c5b44cce0b1c121798e31fd4b194", func := "spacecraft/spacecraftlaw31.PatchTells", spec := "patchTells", apart := false }
def PatchTellsSaid : Prop := patchTellsRow.holds Try.pinned (OpenSpec.ofChange patchTellsSpec)

/-- ITS FALSE NEIGHBOUR: 'it returns false'. Refute it at one input. -/
def patchTellsWrong : ChangeSpec := { name := "patchTells", fn := fun _ => fun
  | [d1, d2, d3] => { results := [.lit (.bool false)], args := [d1, d2, d3] }
  | _ => none }
def PatchTellsWrongFalsely : Prop := patchTellsRow.holds Try.pinned (OpenSpec.ofChange patchTellsWrong)

/-- 'spacecraftlaw32.VaultOpens': WHATEVER THE INPUT: true; the input reads as it did. -/
def vaultOpensSpec : ChangeSpec := { name := "vaultOpens", fn := fun _ => fun
  | [d1, d2, d3] => { results := [.lit (.bool true)], args := [d1, d2, d3] }
  | _ => none }
def vaultOpensRow : OpenClaim := { program := "ytdboplkgnnidcaa", sum := "96d19c7875b680a15bb520a8270def25b4c1c5b44cce0b1c121798e31fd4b194", func := "spacecraft/spacecraftlaw32.VaultOpens", spec := "vaultOpens", apart := false }
def VaultOpensSaid : Prop := vaultOpensRow.holds Try.pinned (OpenSpec.ofChange vaultOpensSpec)

/-- ITS FALSE NEIGHBOUR: 'it returns false'. Refute it at one input. -/
def vaultOpensWrong : ChangeSpec := { name := "vaultOpens", fn := fun _ => fun
  | [d1, d2, d3] => { results := [.lit (.bool false)], args := [d1, d2, d3] }
  | _ => none }
def VaultOpensWrongFalsely : Prop := vaultOpensRow.holds Try.pinned (OpenSpec.ofChange vaultOpensWrong)

/-- 'spacecraftlaw32.VaultPlays': WHATEVER THE INPUT: true; the input reads as it did. -/
def vaultPlaysSpec : ChangeSpec := { name := "vaultPlays", fn := fun _ => fun
  | [d1, d2, d3] => { results := [.lit (.bool true)], args := [d1, d2, d3] }
  | _ => none }
def vaultPlaysRow : OpenClaim := { program := "ytdboplkgnnidcaa", sum := "96d19c7875b680a15bb520a8270def25b4c1c5b44cce0b1c121798e31fd4b194", func := "spacecraft/spacecraftlaw32.VaultPlays", spec := "vaultPlays", apart := false }
def VaultPlaysSaid : Prop := vaultPlaysRow.holds Try.pinned (OpenSpec.ofChange vaultPlaysSpec)

/-- ITS FALSE NEIGHBOUR: 'it returns false'. Refute it at one input. -/
def vaultPlaysWrong : ChangeSpec := { name := "vaultPlays", fn := fun _ => fun
  | [d1, d2, d3] => { results := [.lit (.bool false)], args := [d1, d2, d3] }
  | _ => none }
def VaultPlaysWrongFalsely : Prop := vaultPlaysRow.holds Try.pinned (OpenSpec.ofChange vaultPlaysWrong)

/-- 'spacecraftlaw32.VaultNewest': WHATEVER THE INPUT: true; the input reads as it did. -/
def vaultNewestSpec : ChangeSpec := { name := "vaultNewest", fn := fun _ => fun
  | [d1, d2] => { results := [.lit (.bool true)], args := [d1, d2] }
  | _ => none }
def vaultNewestRow : OpenClaim := { program := "ytdboplkgnnidcaa", sum := "96d19c7875b680a15bb520a8270def25b4c1c5b44cce0b1c121798e31fd4b194", func := "spacecraft/spacecraftlaw32.VaultNewest", spec := "vaultNewest", apart := false }
def VaultNewestSaid : Prop := vaultNewestRow.holds Try.pinned (OpenSpec.ofChange vaultNewestSpec)

/-- ITS FALSE NEIGHBOUR: 'it returns false'. Refute it at one input. -/
def vaultNewestWrong : ChangeSpec := { name := "vaultNewest", fn := fun _ => fun
  | [d1, d2] => { results := [.lit (.bool false)], args := [d1, d2] }
  | _ => none }
def VaultNewestWrongFalsely : Prop := vaultNewestRow.holds Try.pinned (OpenSpec.ofChange vaultNewestWrong)

/-- 'spacecraftlaw32.VaultSurvives': WHATEVER THE INPUT: true; the input reads as it did. -/
def vaultSurvivesSpec : ChangeSpec := { name := "vaultSurvives", fn := fun _ => fun
  | [d1, d2, d3] => { results := [.lit (.bool true)], args := [d1, d2, d3] }
  | _ => none }
def vaultSurvivesRow : OpenClaim := { program := "ytdboplkgnnidcaa", sum := "96d19c7875b680a15bb520a8270def25b4c1c5b44cce0b1c121798e31fd4b194", func := "spacecraft/spacecraftlaw32.VaultSurvives", spec := "vaultSurvives", apart := false }
def VaultSurvivesSaid : Prop := vaultSurvivesRow.holds Try.pinned (OpenSpec.ofChange vaultSurvivesSpec)

/-- ITS FALSE NEIGHBOUR: 'it returns false'. Refute it at one input. -/
def vaultSurvivesWrong : ChangeSpec := { name := "vaultSurvives", fn := fun _ => fun
  | [d1, d2, d3] => { results := [.lit (.bool false)], args := [d1, d2, d3] }
  | _ => none }
def VaultSurvivesWrongFalsely : Prop := vaultSurvivesRow.holds Try.pinned (OpenSpec.ofChange vaultSurvivesWrong)

/- THE SECOND FORM. 'bulk': how many values and letters a reading holds, each counted each time it is reached (what is shared counts as often as it is met; a slice's spare places count too). A statement '..UptoSaid' is the law's where the arguments, and the package variables that the reading takes, are together of bulk at most 1048576: NARROWER than '..Said'. Prove '..Said' where nothing that the law and all that it calls make is longer than what came in: it says more and counts as full. Else prove '..UptoSaid'. A law counts once. -/
mutual
def uptoBulk {H : Type} : DataW H → Nat
  | .lit (.string bytes) => bytes.length + 1
  | .lit _ => 1
  | .nil => 1
  | .ptr d => uptoBulk d + 1
  | .slice elems spare => uptoBulkAll elems + uptoBulkAll spare + 1
  | .agg parts => uptoBulkAll parts + 1
  | .iface _ d => uptoBulk d + 1
  | .map entries => uptoBulkEntries entries + 1
  | .held _ => 1
def uptoBulkAll {H : Type} : List (DataW H) → Nat
  | [] => 0
  | d :: r => uptoBulk d + uptoBulkAll r
def uptoBulkEntries {H : Type} : List (Lit × DataW H) → Nat
  | [] => 0
  | x :: r => uptoBulkEntry x + uptoBulkEntries r
def uptoBulkEntry {H : Type} : Lit × DataW H → Nat
  | (.string bytes, d) => bytes.length + uptoBulk d + 1
  | (_, d) => uptoBulk d + 1
 end
def uptoSmall : (H : Type) → List (DataW H) → Bool := fun _ ds => decide (uptoBulkAll ds ≤ 1048576)
def OpenSpec.upto (s : _root_.Go.ChangeSpec) : _root_.Go.OpenSpec := { _root_.Go.OpenSpec.ofChange s with cond := some uptoSmall }

/-- 'spacecraftlaw31.PatchConverts', WHERE WHAT IT READS IS OF BULK AT MOST 1048576: true; the input reads as it did. -/
def patchConvertsUptoRow : OpenClaim := { program := "ytdboplkgnnidcaa", sum := "96d19c7875b680a15bb520a8270def25b4c1c5b44cce0b1c121798e31fd4b194", func := "spacecraft/spacecraftlaw31.PatchConverts", spec := "patchConverts", apart := false, narrowed := true }
def PatchConvertsUptoSaid : Prop := patchConvertsUptoRow.holds Try.pinned (OpenSpec.upto patchConvertsSpec)

/-- 'spacecraftlaw31.PatchPlays', WHERE WHAT IT READS IS OF BULK AT MOST 1048576: true; the input reads as it did. -/
def patchPlaysUptoRow : OpenClaim := { program := "ytdboplkgnnidcaa", sum := "96d19c7875b680a15bb520a8270def25b4c1c5b44cce0b1c121798e31fd4b194", func := "spacecraft/spacecraftlaw31.PatchPlays", spec := "patchPlays", apart := false, narrowed := true }
def PatchPlaysUptoSaid : Prop := patchPlaysUptoRow.holds Try.pinned (OpenSpec.upto patchPlaysSpec)

/-- 'spacecraftlaw31.PatchLoads', WHERE WHAT IT READS IS OF BULK AT MOST 1048576: true; the input reads as it did. -/
def patchLoadsUptoRow : OpenClaim := { program := "ytdboplkgnnidcaa", sum := "96d19c7875b680a15bb520a8270def25b4c1c5b44cce0b1c121798e31fd4b194", func := "spacecraft/spacecraftlaw31.PatchLoads", spec := "patchLoads", apart := false, narrowed := true }
def PatchLoadsUptoSaid : Prop := patchLoadsUptoRow.holds Try.pinned (OpenSpec.upto patchLoadsSpec)

/-- 'spacecraftlaw31.PatchTells', WHERE WHAT IT READS IS OF BULK AT MOST 1048576: true; the input reads as it did. -/
def patchTellsUptoRow : OpenClaim := { program := "ytdboplkgnnidcaa", sum := "96d19c7875b680a15bb520a8270def25b4c1c5b44cce0b1c121798e31fd4b194", func := "spacecraft/spacecraftlaw31.PatchTells", spec := "patchTells", apart := false, narrowed := true }
def PatchTellsUptoSaid : Prop := patchTellsUptoRow.holds Try.pinned (OpenSpec.upto patchTellsSpec)

/-- 'spacecraftlaw32.VaultOpens', WHERE WHAT IT READS IS OF BULK AT MOST 1048576: true; the input reads as it did. -/
def vaultOpensUptoRow : OpenClaim := { program := "ytdboplkgnnidcaa", sum := "96d19c7875b680a15bb520a8270def25b4c1c5b44cce0b1c121798e31fd4b194", func := "spacecraft/spacecraftlaw32.VaultOpens", spec := "vaultOpens", apart := false, narrowed := true }
def VaultOpensUptoSaid : Prop := vaultOpensUptoRow.holds Try.pinned (OpenSpec.upto vaultOpensSpec)

/-- 'spacecraftlaw32.VaultPlays', WHERE WHAT IT READS IS OF BULK AT MOST 1048576: true; the input reads as it did. -/
def vaultPlaysUptoRow : OpenClaim := { program := "ytdboplkgnnidcaa", sum := "96d19c7875b680a15bb520a8270def25b4c1c5b44cce0b1c121798e31fd4b194", func := "spacecraft/spacecraftlaw32.VaultPlays", spec := "vaultPlays", apart := false, narrowed := true }
def VaultPlaysUptoSaid : Prop := vaultPlaysUptoRow.holds Try.pinned (OpenSpec.upto vaultPlaysSpec)

/-- 'spacecraftlaw32.VaultNewest', WHERE WHAT IT READS IS OF BULK AT MOST 1048576: true; the input reads as it did. -/
def vaultNewestUptoRow : OpenClaim := { program := "ytdboplkgnnidcaa", sum := "96d19c7875b680a15bb520a8270def25b4c1c5b44cce0b1c121798e31fd4b194", func := "spacecraft/spacecraftlaw32.VaultNewest", spec := "vaultNewest", apart := false, narrowed := true }
def VaultNewestUptoSaid : Prop := vaultNewestUptoRow.holds Try.pinned (OpenSpec.upto vaultNewestSpec)

/-- 'spacecraftlaw32.VaultSurvives', WHERE WHAT IT READS IS OF BULK AT MOST 1048576: true; the input reads as it did. -/
def vaultSurvivesUptoRow : OpenClaim := { program := "ytdboplkgnnidcaa", sum := "96d19c7875b680a15bb520a8270def25b4c1c5b44cce0b1c121798e31fd4b194", func := "spacecraft/spacecraftlaw32.VaultSurvives", spec := "vaultSurvives", apart := false, narrowed := true }
def VaultSurvivesUptoSaid : Prop := vaultSurvivesUptoRow.holds Try.pinned (OpenSpec.upto vaultSurvivesSpec)

end Rows
end Go.Proofs.Ytdboplkgnnidcaa
