/-
  No cell of these rows narrows 'for every input' (looked for: loops, veiled, ifaces, maps, wideKeys, modest, calm, conditions, laid).
  DERIVED. THE GIVEN ROWS OF THIS SEAT. 5 by the template 'for every input the law returns true; each argument reads behind the call as it read before'; 0 by the template 'total and deterministic' (their statements: YtnklmadmenkdoaaGreatTotals.lean).
  GIVEN WITH THE SEED: the statements are not yours to turn. If you find one false, say at which input.
  Laid BY PROGRAM, IN A SANDBOX (cutbox-rows.mjs): the forced cells as the released guide's own fill.sh prints them over the translation 8acfa14c11b5201e… (all of the seat's roots in one cut). By AI agents, Wed Nov 11 2026. No macro, syntax, notation, axiom, sorry.
-/
import Derived.Test.YtnklmadmenkdoaaGreatChecked
import GoSem.Claim
import GoSem.ClaimJoined
import GoSem.ClaimMapViews
import Derived.JoinedTies
import Derived.KernelRfl
namespace Go.Proofs.YtnklmadmenkdoaaGreat
/- THE CELL 'sum', in the pinned program and in every row, IS THE sha256 OF THE DUMP (.gsa) THAT YtnklmadmenkdoaaGreatProg.lean LOADS. Nothing in Lean hashes anything: it is a label: what it is worth is what the hold of that sum in a sandbox is worth. -/
noncomputable def Tryz.pinned : Pinned := { name := "ytnklmadmenkdoaagreat", sum := "8acfa14c11b5201e35fc38e6f8c9c925f7b95de93645d2b7aeeeef25cb48f165", checked := Tryz.checked }
namespace Rows
def none {H : Type} : Left H := { results := [], args := [] }

/-- 'spacecraftlaw56.StationSends': WHATEVER THE INPUT: true; the input reads as it did. -/
def stationSendsSpec : ChangeSpec := { name := "stationSends", fn := fun _ => fun
  | [d] => { results := [.lit (.bool true)], args := [d] }
  | _ => none }
def stationSendsRow : OpenClaim := { program := "ytnklmadmenkdoaagreat", sum := "8acfa14c11b5201e35fc38e6f8c9c925f7b95de93645d2b7aeeeef25cb48f165", func := "spacecraft/spacecraftlaw56.StationSends", spec := "stationSends", inPlace := ["internal/bytealg.Count", "internal/bytealg.IndexByte", "internal/bytealg.Index", "internal/bytealg.MakeNoZero", "slices.overlaps[spacecraft/archive.process]", "slices.overlaps[spacecraft/archive.entry]"], unfollowed := true, recurses := true, named := ["internal/bytealg.MaxLen"], plainKeys := false, apart := false }
def StationSendsSaid : Prop := stationSendsRow.holds Tryz.pinned (OpenSpec.ofChange stationSendsSpec)

/-- ITS FALSE NEIGHBOUR: 'it returns false'. Refute it at one input. -/
def stationSendsWrong : ChangeSpec := { name := "stationSends", fn := fun _ => fun
  | [d] => { results := [.lit (.bool false)], args := [d] }
  | _ => none }
def StationSendsWrongFalsely : Prop := stationSendsRow.holds Tryz.pinned (OpenSpec.ofChange stationSendsWrong)

/-- 'spacecraftlaw56.StationRepeats': WHATEVER THE INPUT: true; the input reads as it did. -/
def stationRepeatsSpec : ChangeSpec := { name := "stationRepeats", fn := fun _ => fun
  | [d1, d2] => { results := [.lit (.bool true)], args := [d1, d2] }
  | _ => none }
def stationRepeatsRow : OpenClaim := { program := "ytnklmadmenkdoaagreat", sum := "8acfa14c11b5201e35fc38e6f8c9c925f7b95de93645d2b7aeeeef25cb48f165", func := "spacecraft/spacecraftlaw56.StationRepeats", spec := "stationRepeats", inPlace := ["internal/bytealg.Count", "internal/bytealg.IndexByte", "internal/bytealg.Index", "internal/bytealg.MakeNoZero", "slices.overlaps[spacecraft/archive.process]", "slices.overlaps[spacecraft/archive.entry]"], unfollowed := true, recurses := true, named := ["internal/bytealg.MaxLen"], plainKeys := false, apart := false }
def StationRepeatsSaid : Prop := stationRepeatsRow.holds Tryz.pinned (OpenSpec.ofChange stationRepeatsSpec)

/-- ITS FALSE NEIGHBOUR: 'it returns false'. Refute it at one input. -/
def stationRepeatsWrong : ChangeSpec := { name := "stationRepeats", fn := fun _ => fun
  | [d1, d2] => { results := [.lit (.bool false)], args := [d1, d2] }
  | _ => none }
def StationRepeatsWrongFalsely : Prop := stationRepeatsRow.holds Tryz.pinned (OpenSpec.ofChange stationRepeatsWrong)

/-- 'spacecraftlaw56.StationFollows': WHATEVER THE INPUT: true; the input reads as it did. -/
def stationFollowsSpec : ChangeSpec := { name := "stationFollows", fn := fun _ => fun
  | [d1, d2] => { results := [.lit (.bool true)], args := [d1, d2] }
  | _ => none }
def stationFollowsRow : OpenClaim := { program := "ytnklmadmenkdoaagreat", sum := "8acfa14c11b5201e35fc38e6f8c9c925f7b95de93645d2b7aeeeef25cb48f165", func := "spacecraft/spacecraftlaw56.StationFollows", spec := "stationFollows", inPlace := ["internal/bytealg.Count", "internal/bytealg.IndexByte", "internal/bytealg.Index", "internal/bytealg.MakeNoZero", "slices.overlaps[spacecraft/archive.process]", "slices.overlaps[spacecraft/archive.entry]"], unfollowed := true, recurses := true, named := ["internal/bytealg.MaxLen"], plainKeys := false, apart := false }
def StationFollowsSaid : Prop := stationFollowsRow.holds Tryz.pinned (OpenSpec.ofChange stationFollowsSpec)

/-- ITS FALSE NEIGHBOUR: 'it returns false'. Refute it at one input. -/
def stationFollowsWrong : ChangeSpec := { name := "stationFollows", fn := fun _ => fun
  | [d1, d2] => { results := [.lit (.bool false)], args := [d1, d2] }
  | _ => none }
def StationFollowsWrongFalsely : Prop := stationFollowsRow.holds Tryz.pinned (OpenSpec.ofChange stationFollowsWrong)

/-- 'spacecraftlaw56.StationPlays': WHATEVER THE INPUT: true; the input reads as it did. -/
def stationPlaysSpec : ChangeSpec := { name := "stationPlays", fn := fun _ => fun
  | [d] => { results := [.lit (.bool true)], args := [d] }
  | _ => none }
def stationPlaysRow : OpenClaim := { program := "ytnklmadmenkdoaagreat", sum := "8acfa14c11b5201e35fc38e6f8c9c925f7b95de93645d2b7aeeeef25cb48f165", func := "spacecraft/spacecraftlaw56.StationPlays", spec := "stationPlays", inPlace := ["internal/bytealg.Count", "internal/bytealg.IndexByte", "internal/bytealg.Index", "internal/bytealg.MakeNoZero", "slices.overlaps[spacecraft/archive.process]", "slices.overlaps[spacecraft/archive.entry]"], unfollowed := true, recurses := true, named := ["internal/bytealg.MaxLen"], plainKeys := false, apart := false }
def StationPlaysSaid : Prop := stationPlaysRow.holds Tryz.pinned (OpenSpec.ofChange stationPlaysSpec)

/-- ITS FALSE NEIGHBOUR: 'it returns false'. Refute it at one input. -/
def stationPlaysWrong : ChangeSpec := { name := "stationPlays", fn := fun _ => fun
  | [d] => { results := [.lit (.bool false)], args := [d] }
  | _ => none }
def StationPlaysWrongFalsely : Prop := stationPlaysRow.holds Tryz.pinned (OpenSpec.ofChange stationPlaysWrong)

/-- 'spacecraftlaw56.StationArchives': WHATEVER THE INPUT: true; the input reads as it did. -/
def stationArchivesSpec : ChangeSpec := { name := "stationArchives", fn := fun _ => fun
  | [d] => { results := [.lit (.bool true)], args := [d] }
  | _ => none }
def stationArchivesRow : OpenClaim := { program := "ytnklmadmenkdoaagreat", sum := "8acfa14c11b5201e35fc38e6f8c9c925f7b95de93645d2b7aeeeef25cb48f165", func := "spacecraft/spacecraftlaw56.StationArchives", spec := "stationArchives", inPlace := ["internal/bytealg.Count", "internal/bytealg.IndexByte", "internal/bytealg.Index", "internal/bytealg.MakeNoZero", "slices.overlaps[spacecraft/archive.process]", "slices.overlaps[spacecraft/archive.entry]"], unfollowed := true, recurses := true, named := ["internal/bytealg.MaxLen"], plainKeys := false, apart := false }
def StationArchivesSaid : Prop := stationArchivesRow.holds Tryz.pinned (OpenSpec.ofChange stationArchivesSpec)

/-- ITS FALSE NEIGHBOUR: 'it returns false'. Refute it at one input. -/
def stationArchivesWrong : ChangeSpec := { name := "stationArchives", fn := fun _ => fun
  | [d] => { results := [.lit (.bool false)], args := [d] }
  | _ => none }
def StationArchivesWrongFalsely : Prop := stationArchivesRow.holds Tryz.pinned (OpenSpec.ofChange stationArchivesWrong)

/- THE SECOND FORM. 'bulk': how many values and letters a reading holds, each counted each time it is reached (what is shared counts as often as it is met; a slice's spare places count too). A statement '..UptoSaid' is the law's where the arguments, and the package variables that the reading takes, are together of bulk at most 1048576: NARROWER than '..Said'. Prove '..Said' where nothing that the law and all that it calls make is longer than what came in: it says more and counts as full. Else prove '..UptoSaid'. A law counts once. -/
mutual
def uptoBulk {H : Type} : DataW H → Nat
  | .lit (.string bytes) => bytes.length + 1
  | .lit _ => 1
  | .nil => 1
  | .ptr d => uptoBulk d + 1
  | .slice elems spare => uptoBulkAll elems + uptoBulkAll spare + 1
  | .agg parts => uptoBulkAll parts + 1
  | .iface _ d => uptoBulk d + 1
  | .map entries => uptoBulkEntries entries + 1
  | .held _ => 1
def uptoBulkAll {H : Type} : List (DataW H) → Nat
  | [] => 0
  | d :: r => uptoBulk d + uptoBulkAll r
def uptoBulkEntries {H : Type} : List (Lit × DataW H) → Nat
  | [] => 0
  | x :: r => uptoBulkEntry x + uptoBulkEntries r
def uptoBulkEntry {H : Type} : Lit × DataW H → Nat
  | (.string bytes, d) => bytes.length + uptoBulk d + 1
  | (_, d) => uptoBulk d + 1
 end
def uptoSmall : (H : Type) → List (DataW H) → Bool := fun _ ds => decide (uptoBulkAll ds ≤ 1048576)
def OpenSpec.upto (s : _root_.Go.ChangeSpec) : _root_.Go.OpenSpec := { _root_.Go.OpenSpec.ofChange s with cond := some uptoSmall }

/-- 'spacecraftlaw56.StationSends', WHERE WHAT IT READS IS OF BULK AT MOST 1048576: true; the input reads as it did. -/
def stationSendsUptoRow : OpenClaim := { program := "ytnklmadmenkdoaagreat", sum := "8acfa14c11b5201e35fc38e6f8c9c925f7b95de93645d2b7aeeeef25cb48f165", func := "spacecraft/spacecraftlaw56.StationSends", spec := "stationSends", inPlace := ["internal/bytealg.Count", "internal/bytealg.IndexByte", "internal/bytealg.Index", "internal/bytealg.MakeNoZero", "slices.overlaps[spacecraft/archive.process]", "slices.overlaps[spacecraft/archive.entry]"], unfollowed := true, recurses := true, named := ["internal/bytealg.MaxLen"], plainKeys := false, apart := false, narrowed := true }
def StationSendsUptoSaid : Prop := stationSendsUptoRow.holds Tryz.pinned (OpenSpec.upto stationSendsSpec)

/-- 'spacecraftlaw56.StationRepeats', WHERE WHAT IT READS IS OF BULK AT MOST 1048576: true; the input reads as it did. -/
def stationRepeatsUptoRow : OpenClaim := { program := "ytnklmadmenkdoaagreat", sum := "8acfa14c11b5201e35fc38e6f8c9c925f7b95de93645d2b7aeeeef25cb48f165", func := "spacecraft/spacecraftlaw56.StationRepeats", spec := "stationRepeats", inPlace := ["internal/bytealg.Count", "internal/bytealg.IndexByte", "internal/bytealg.Index", "internal/bytealg.MakeNoZero", "slices.overlaps[spacecraft/archive.process]", "slices.overlaps[spacecraft/archive.entry]"], unfollowed := true, recurses := true, named := ["internal/bytealg.MaxLen"], plainKeys := false, apart := false, narrowed := true }
def StationRepeatsUptoSaid : Prop := stationRepeatsUptoRow.holds Tryz.pinned (OpenSpec.upto stationRepeatsSpec)

/-- 'spacecraftlaw56.StationFollows', WHERE WHAT IT READS IS OF BULK AT MOST 1048576: true; the input reads as it did. -/
def stationFollowsUptoRow : OpenClaim := { program := "ytnklmadmenkdoaagreat", sum := "8acfa14c11b5201e35fc38e6f8c9c925f7b95de93645d2b7aeeeef25cb48f165", func := "spacecraft/spacecraftlaw56.StationFollows", spec := "stationFollows", inPlace := ["internal/bytealg.Count", "internal/bytealg.IndexByte", "internal/bytealg.Index", "internal/bytealg.MakeNoZero", "slices.overlaps[spacecraft/archive.process]", "slices.overlaps[spacecraft/archive.entry]"], unfollowed := true, recurses := true, named := ["internal/bytealg.MaxLen"], plainKeys := false, apart := false, narrowed := true }
def StationFollowsUptoSaid : Prop := stationFollowsUptoRow.holds Tryz.pinned (OpenSpec.upto stationFollowsSpec)

/-- 'spacecraftlaw56.StationPlays', WHERE WHAT IT READS IS OF BULK AT MOST 1048576: true; the input reads as it did. -/
def stationPlaysUptoRow : OpenClaim := { program := "ytnklmadmenkdoaagreat", sum := "8acfa14c11b5201e35fc38e6f8c9c925f7b95de93645d2b7aeeeef25cb48f165", func := "spacecraft/spacecraftlaw56.StationPlays", spec := "stationPlays", inPlace := ["internal/bytealg.Count", "internal/bytealg.IndexByte", "internal/bytealg.Index", "internal/bytealg.MakeNoZero", "slices.overlaps[spacecraft/archive.process]", "slices.overlaps[spacecraft/archive.entry]"], unfollowed := true, recurses := true, named := ["internal/bytealg.MaxLen"], plainKeys := false, apart := false, narrowed := true }
def StationPlaysUptoSaid : Prop := stationPlaysUptoRow.holds Tryz.pinned (OpenSpec.upto stationPlaysSpec)

/-- 'spacecraftlaw56.StationArchives', WHERE WHAT IT READS IS OF BULK AT MOST 1048576: true; the input reads as it did. -/
def stationArchivesUptoRow : OpenClaim := { program := "ytnklmadmenkdoaagreat", sum := "8acfa14c11b5201e35fc38e6f8c9c925f7b95de93645d2b7aeeeef25cb48f165", func := "spacecraft/spacecraftlaw56.StationArchives", spec := "stationArchives", inPlace := ["internal/bytealg.Count", "internal/bytealg.IndexByte", "internal/bytealg.Index", "internal/bytealg.MakeNoZero", "slices.overlaps[spacecraft/archive.process]", "slices.overlaps[spacecraft/archive.entry]"], unfollowed := true, recurses := true, named := ["internal/bytealg.MaxLen"], plainKeys := false, apart := false, narrowed := true }
def StationArchivesUptoSaid : Prop := stationArchivesUptoRow.holds Tryz.pinned (OpenSpec.upto stationArchivesSpec)

end Rows
end Go.Proofs.YtnklmadmenkdoaaGreat
