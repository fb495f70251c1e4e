/-
  No cell of these rows narrows 'for every input' (looked for: loops, veiled, ifaces, maps, wideKeys, modest, calm, conditions, laid).
  DERIVED. THE GIVEN ROWS OF THIS SEAT. 10 by the template 'for every input the law returns true; each argument reads behind the call as it read before'; 0 by the template 'total and deterministic' (their statements: YtfjadhkhmhnccaaTotals.lean).
  GIVEN WITH THE SEED: the statements are not yours to turn. If you find one false, say at which input.
  Laid BY PROGRAM, IN A SANDBOX (cutbox-rows.mjs): the forced cells as the released guide's own fill.sh prints them over the translation e1559d2794627da5… (all of the seat's roots in one cut). By AI agents, Wed Nov 11 2026. No macro, syntax, notation, axiom, sorry.
-/
import Derived.Test.YtfjadhkhmhnccaaChecked
import GoSem.Claim
import GoSem.ClaimJoined
import GoSem.ClaimMapViews
import Derived.JoinedTies
import Derived.KernelRfl
namespace Go.Proofs.Ytfjadhkhmhnccaa
/- THE CELL 'sum', in the pinned program and in every row, IS THE sha256 OF THE DUMP (.gsa) THAT YtfjadhkhmhnccaaProg.lean LOADS. Nothing in Lean hashes anything: it is a label: what it is worth is what the hold of that sum in a sandbox is worth. -/
noncomputable def Try.pinned : Pinned := { name := "ytfjadhkhmhnccaa", sum := "e1559d2794627da5378d9c809202d7e956b211a9db0fdd841f0810941ecde24b", checked := Try.checked }
namespace Rows
def none {H : Type} : Left H := { results := [], args := [] }

/-- 'spacecraftlaw27.SourceStarts': WHATEVER THE INPUT: true; the input reads as it did. -/
def sourceStartsSpec : ChangeSpec := { name := "sourceStarts", fn := fun _ => fun
  | [d] => { results := [.lit (.bool true)], args := [d] }
  | _ => none }
def sourceStartsRow : OpenClaim := { program := "ytfjadhkhmhnccaa", sum := "e1559d2794627da5378d9c809202d7e956b211a9db0fdd841f0810941ecde24b", func := "spacecraft/spacecraftlaw27.SourceStarts", spec := "sourceStarts", unfollowed := true, recurses := true, apart := false }
def SourceStartsSaid : Prop := sourceStartsRow.holds Try.pinned (OpenSpec.ofChange sourceStartsSpec)

/-- ITS FALSE NEIGHBOUR: 'it returns false'. Refute it at one input. -/
def sourceStartsWrong : ChangeSpec := { name := "sourceStarts", fn := fun _ => fun
  | [d] => { results := [.lit (.bool false)], args := [d] }
  | _ => none }
def SourceStartsWrongFalsely : Prop := sourceStartsRow.holds Try.pinned (OpenSpec.ofChange sourceStartsWrong)

/-- 'spacecraftlaw27.SourceOrder': WHATEVER THE INPUT: true; the input reads as it did. -/
def sourceOrderSpec : ChangeSpec := { name := "sourceOrder", fn := fun _ => fun
  | [d] => { results := [.lit (.bool true)], args := [d] }
  | _ => none }
def sourceOrderRow : OpenClaim := { program := "ytfjadhkhmhnccaa", sum := "e1559d2794627da5378d9c809202d7e956b211a9db0fdd841f0810941ecde24b", func := "spacecraft/spacecraftlaw27.SourceOrder", spec := "sourceOrder", unfollowed := true, recurses := true, apart := false }
def SourceOrderSaid : Prop := sourceOrderRow.holds Try.pinned (OpenSpec.ofChange sourceOrderSpec)

/-- ITS FALSE NEIGHBOUR: 'it returns false'. Refute it at one input. -/
def sourceOrderWrong : ChangeSpec := { name := "sourceOrder", fn := fun _ => fun
  | [d] => { results := [.lit (.bool false)], args := [d] }
  | _ => none }
def SourceOrderWrongFalsely : Prop := sourceOrderRow.holds Try.pinned (OpenSpec.ofChange sourceOrderWrong)

/-- 'spacecraftlaw27.SourceCompletes': WHATEVER THE INPUT: true; the input reads as it did. -/
def sourceCompletesSpec : ChangeSpec := { name := "sourceCompletes", fn := fun _ => fun
  | [d1, d2, d3] => { results := [.lit (.bool true)], args := [d1, d2, d3] }
  | _ => none }
def sourceCompletesRow : OpenClaim := { program := "ytfjadhkhmhnccaa", sum := "e1559d2794627da5378d9c809202d7e956b211a9db0fdd841f0810941ecde24b", func := "spacecraft/spacecraftlaw27.SourceCompletes", spec := "sourceCompletes", unfollowed := true, recurses := true, apart := false }
def SourceCompletesSaid : Prop := sourceCompletesRow.holds Try.pinned (OpenSpec.ofChange sourceCompletesSpec)

/-- ITS FALSE NEIGHBOUR: 'it returns false'. Refute it at one input. -/
def sourceCompletesWrong : ChangeSpec := { name := "sourceCompletes", fn := fun _ => fun
  | [d1, d2, d3] => { results := [.lit (.bool false)], args := [d1, d2, d3] }
  | _ => none }
def SourceCompletesWrongFalsely : Prop := sourceCompletesRow.holds Try.pinned (OpenSpec.ofChange sourceCompletesWrong)

/-- 'spacecraftlaw27.SourcePlays': WHATEVER THE INPUT: true; the input reads as it did. -/
def sourcePlaysSpec : ChangeSpec := { name := "sourcePlays", fn := fun _ => fun
  | [d] => { results := [.lit (.bool true)], args := [d] }
  | _ => none }
def sourcePlaysRow : OpenClaim := { program := "ytfjadhkhmhnccaa", sum := "e1559d2794627da5378d9c809202d7e956b211a9db0fdd841f0810941ecde24b", func := "spacecraft/spacecraftlaw27.SourcePlays", spec := "sourcePlays", unfollowed := true, recurses := true, apart := false }
def SourcePlaysSaid : Prop := sourcePlaysRow.holds Try.pinned (OpenSpec.ofChange sourcePlaysSpec)

/-- ITS FALSE NEIGHBOUR: 'it returns false'. Refute it at one input. -/
def sourcePlaysWrong : ChangeSpec := { name := "sourcePlays", fn := fun _ => fun
  | [d] => { results := [.lit (.bool false)], args := [d] }
  | _ => none }
def SourcePlaysWrongFalsely : Prop := sourcePlaysRow.holds Try.pinned (OpenSpec.ofChange sourcePlaysWrong)

/-- 'spacecraftlaw27.SourceClones': WHATEVER THE INPUT: true; the input reads as it did. -/
def sourceClonesSpec : ChangeSpec := { name := "sourceClones", fn := fun _ => fun
  | [d] => { results := [.lit (.bool true)], args := [d] }
  | _ => none }
def sourceClonesRow : OpenClaim := { program := "ytfjadhkhmhnccaa", sum := "e1559d2794627da5378d9c809202d7e956b211a9db0fdd841f0810941ecde24b", func := "spacecraft/spacecraftlaw27.SourceClones", spec := "sourceClones", unfollowed := true, recurses := true, apart := false }
def SourceClonesSaid : Prop := sourceClonesRow.holds Try.pinned (OpenSpec.ofChange sourceClonesSpec)

/-- ITS FALSE NEIGHBOUR: 'it returns false'. Refute it at one input. -/
def sourceClonesWrong : ChangeSpec := { name := "sourceClones", fn := fun _ => fun
  | [d] => { results := [.lit (.bool false)], args := [d] }
  | _ => none }
def SourceClonesWrongFalsely : Prop := sourceClonesRow.holds Try.pinned (OpenSpec.ofChange sourceClonesWrong)

/-- 'spacecraftlaw28.SinkCompletes': WHATEVER THE INPUT: true; the input reads as it did. -/
def sinkCompletesSpec : ChangeSpec := { name := "sinkCompletes", fn := fun _ => fun
  | [d1, d2, d3] => { results := [.lit (.bool true)], args := [d1, d2, d3] }
  | _ => none }
def sinkCompletesRow : OpenClaim := { program := "ytfjadhkhmhnccaa", sum := "e1559d2794627da5378d9c809202d7e956b211a9db0fdd841f0810941ecde24b", func := "spacecraft/spacecraftlaw28.SinkCompletes", spec := "sinkCompletes", unfollowed := true, recurses := true, apart := false }
def SinkCompletesSaid : Prop := sinkCompletesRow.holds Try.pinned (OpenSpec.ofChange sinkCompletesSpec)

/-- ITS FALSE NEIGHBOUR: 'it returns false'. Refute it at one input. -/
def sinkCompletesWrong : ChangeSpec := { name := "sinkCompletes", fn := fun _ => fun
  | [d1, d2, d3] => { results := [.lit (.bool false)], args := [d1, d2, d3] }
  | _ => none }
def SinkCompletesWrongFalsely : Prop := sinkCompletesRow.holds Try.pinned (OpenSpec.ofChange sinkCompletesWrong)

/-- 'spacecraftlaw28.SinkRefuses': WHATEVER THE INPUT: true; the input reads as it did. -/
def sinkRefusesSpec : ChangeSpec := { name := "sinkRefuses", fn := fun _ => fun
  | [d1, d2, d3] => { results := [.lit (.bool true)], args := [d1, d2, d3] }
  | _ => none }
def sinkRefusesRow : OpenClaim := { program := "ytfjadhkhmhnccaa", sum := "e1559d2794627da5378d9c809202d7e956b211a9db0fdd841f0810941ecde24b", func := "spacecraft/spacecraftlaw28.SinkRefuses", spec := "sinkRefuses", unfollowed := true, recurses := true, apart := false }
def SinkRefusesSaid : Prop := sinkRefusesRow.holds Try.pinned (OpenSpec.ofChange sinkRefusesSpec)

/-- ITS FALSE NEIGHBOUR: 'it returns false'. Refute it at one input. -/
def sinkRefusesWrong : ChangeSpec := { name := "sinkRefuses", fn := fun _ => fun
  | [d1, d2, d3] => { results := [.lit (.bool false)], args := [d1, d2, d3] }
  | _ => none }
def SinkRefusesWrongFalsely : Prop := sinkRefusesRow.holds Try.pinned (OpenSpec.ofChange sinkRefusesWrong)

/-- 'spacecraftlaw28.SinkAsks': WHATEVER THE INPUT: true; the input reads as it did. -/
def sinkAsksSpec : ChangeSpec := { name := "sinkAsks", fn := fun _ => fun
  | [d1, d2] => { results := [.lit (.bool true)], args := [d1, d2] }
  | _ => none }
def sinkAsksRow : OpenClaim := { program := "ytfjadhkhmhnccaa", sum := "e1559d2794627da5378d9c809202d7e956b211a9db0fdd841f0810941ecde24b", func := "spacecraft/spacecraftlaw28.SinkAsks", spec := "sinkAsks", unfollowed := true, recurses := true, apart := false }
def SinkAsksSaid : Prop := sinkAsksRow.holds Try.pinned (OpenSpec.ofChange sinkAsksSpec)

/-- ITS FALSE NEIGHBOUR: 'it returns false'. Refute it at one input. -/
def sinkAsksWrong : ChangeSpec := { name := "sinkAsks", fn := fun _ => fun
  | [d1, d2] => { results := [.lit (.bool false)], args := [d1, d2] }
  | _ => none }
def SinkAsksWrongFalsely : Prop := sinkAsksRow.holds Try.pinned (OpenSpec.ofChange sinkAsksWrong)

/-- 'spacecraftlaw28.SinkTires': WHATEVER THE INPUT: true; the input reads as it did. -/
def sinkTiresSpec : ChangeSpec := { name := "sinkTires", fn := fun _ => fun
  | [d1, d2] => { results := [.lit (.bool true)], args := [d1, d2] }
  | _ => none }
def sinkTiresRow : OpenClaim := { program := "ytfjadhkhmhnccaa", sum := "e1559d2794627da5378d9c809202d7e956b211a9db0fdd841f0810941ecde24b", func := "spacecraft/spacecraftlaw28.SinkTires", spec := "sinkTires", unfollowed := true, recurses := true, apart := false }
def SinkTiresSaid : Prop := sinkTiresRow.holds Try.pinned (OpenSpec.ofChange sinkTiresSpec)

/-- ITS FALSE NEIGHBOUR: 'it returns false'. Refute it at one input. -/
def sinkTiresWrong : ChangeSpec := { name := "sinkTires", fn := fun _ => fun
  | [d1, d2] => { results := [.lit (.bool false)], args := [d1, d2] }
  | _ => none }
def SinkTiresWrongFalsely : Prop := sinkTiresRow.holds Try.pinned (OpenSpec.ofChange sinkTiresWrong)

/-- 'spacecraftlaw28.SinkMakes': WHATEVER THE INPUT: true; the input reads as it did. -/
def sinkMakesSpec : ChangeSpec := { name := "sinkMakes", fn := fun _ => fun
  | [d] => { results := [.lit (.bool true)], args := [d] }
  | _ => none }
def sinkMakesRow : OpenClaim := { program := "ytfjadhkhmhnccaa", sum := "e1559d2794627da5378d9c809202d7e956b211a9db0fdd841f0810941ecde24b", func := "spacecraft/spacecraftlaw28.SinkMakes", spec := "sinkMakes", unfollowed := true, recurses := true, apart := false }
def SinkMakesSaid : Prop := sinkMakesRow.holds Try.pinned (OpenSpec.ofChange sinkMakesSpec)

/-- ITS FALSE NEIGHBOUR: 'it returns false'. Refute it at one input. -/
def sinkMakesWrong : ChangeSpec := { name := "sinkMakes", fn := fun _ => fun
  | [d] => { results := [.lit (.bool false)], args := [d] }
  | _ => none }
def SinkMakesWrongFalsely : Prop := sinkMakesRow.holds Try.pinned (OpenSpec.ofChange sinkMakesWrong)

/- THE SECOND FORM. 'bulk': how many values and letters a reading holds, each counted each time it is reached (what is shared counts as often as it is met; a slice's spare places count too). A statement '..UptoSaid' is the law's where the arguments, and the package variables that the reading takes, are together of bulk at most 1048576: NARROWER than '..Said'. Prove '..Said' where nothing that the law and all that it calls make is longer than what came in: it says more and counts as full. Else prove '..UptoSaid'. A law counts once. -/
mutual
def uptoBulk {H : Type} : DataW H → Nat
  | .lit (.string bytes) => bytes.length + 1
  | .lit _ => 1
  | .nil => 1
  | .ptr d => uptoBulk d + 1
  | .slice elems spare => uptoBulkAll elems + uptoBulkAll spare + 1
  | .agg parts => uptoBulkAll parts + 1
  | .iface _ d => uptoBulk d + 1
  | .map entries => uptoBulkEntries entries + 1
  | .held _ => 1
def uptoBulkAll {H : Type} : List (DataW H) → Nat
  | [] => 0
  | d :: r => uptoBulk d + uptoBulkAll r
def uptoBulkEntries {H : Type} : List (Lit × DataW H) → Nat
  | [] => 0
  | x :: r => uptoBulkEntry x + uptoBulkEntries r
def uptoBulkEntry {H : Type} : Lit × DataW H → Nat
  | (.string bytes, d) => bytes.length + uptoBulk d + 1
  | (_, d) => uptoBulk d + 1
 end
def uptoSmall : (H : Type) → List (DataW H) → Bool := fun _ ds => decide (uptoBulkAll ds ≤ 1048576)
def OpenSpec.upto (s : _root_.Go.ChangeSpec) : _root_.Go.OpenSpec := { _root_.Go.OpenSpec.ofChange s with cond := some uptoSmall }

/-- 'spacecraftlaw27.SourceStarts', WHERE WHAT IT READS IS OF BULK AT MOST 1048576: true; the input reads as it did. -/
def sourceStartsUptoRow : OpenClaim := { program := "ytfjadhkhmhnccaa", sum := "e1559d2794627da5378d9c809202d7e956b211a9db0fdd841f0810941ecde24b", func := "spacecraft/spacecraftlaw27.SourceStarts", spec := "sourceStarts", unfollowed := true, recurses := true, apart := false, narrowed := true }
def SourceStartsUptoSaid : Prop := sourceStartsUptoRow.holds Try.pinned (OpenSpec.upto sourceStartsSpec)

/-- 'spacecraftlaw27.SourceOrder', WHERE WHAT IT READS IS OF BULK AT MOST 1048576: true; the input reads as it did. -/
def sourceOrderUptoRow : OpenClaim := { program := "ytfjadhkhmhnccaa", sum := "e1559d2794627da5378d9c809202d7e956b211a9db0fdd841f0810941ecde24b", func := "spacecraft/spacecraftlaw27.SourceOrder", spec := "sourceOrder", unfollowed := true, recurses := true, apart := false, narrowed := true }
def SourceOrderUptoSaid : Prop := sourceOrderUptoRow.holds Try.pinned (OpenSpec.upto sourceOrderSpec)

/-- 'spacecraftlaw27.SourceCompletes', WHERE WHAT IT READS IS OF BULK AT MOST 1048576: true; the input reads as it did. -/
def sourceCompletesUptoRow : OpenClaim := { program := "ytfjadhkhmhnccaa", sum := "e1559d2794627da5378d9c809202d7e956b211a9db0fdd841f0810941ecde24b", func := "spacecraft/spacecraftlaw27.SourceCompletes", spec := "sourceCompletes", unfollowed := true, recurses := true, apart := false, narrowed := true }
def SourceCompletesUptoSaid : Prop := sourceCompletesUptoRow.holds Try.pinned (OpenSpec.upto sourceCompletesSpec)

/-- 'spacecraftlaw27.SourcePlays', WHERE WHAT IT READS IS OF BULK AT MOST 1048576: true; the input reads as it did. -/
def sourcePlaysUptoRow : OpenClaim := { program := "ytfjadhkhmhnccaa", sum := "e1559d2794627da5378d9c809202d7e956b211a9db0fdd841f0810941ecde24b", func := "spacecraft/spacecraftlaw27.SourcePlays", spec := "sourcePlays", unfollowed := true, recurses := true, apart := false, narrowed := true }
def SourcePlaysUptoSaid : Prop := sourcePlaysUptoRow.holds Try.pinned (OpenSpec.upto sourcePlaysSpec)

/-- 'spacecraftlaw27.SourceClones', WHERE WHAT IT READS IS OF BULK AT MOST 1048576: true; the input reads as it did. -/
def sourceClonesUptoRow : OpenClaim := { program := "ytfjadhkhmhnccaa", sum := "e1559d2794627da5378d9c809202d7e956b211a9db0fdd841f0810941ecde24b", func := "spacecraft/spacecraftlaw27.SourceClones", spec := "sourceClones", unfollowed := true, recurses := true, apart := false, narrowed := true }
def SourceClonesUptoSaid : Prop := sourceClonesUptoRow.holds Try.pinned (OpenSpec.upto sourceClonesSpec)

/-- 'spacecraftlaw28.SinkCompletes', WHERE WHAT IT READS IS OF BULK AT MOST 1048576: true; the input reads as it did. -/
def sinkCompletesUptoRow : OpenClaim := { program := "ytfjadhkhmhnccaa", sum := "e1559d2794627da5378d9c809202d7e956b211a9db0fdd841f0810941ecde24b", func := "spacecraft/spacecraftlaw28.SinkCompletes", spec := "sinkCompletes", unfollowed := true, recurses := true, apart := false, narrowed := true }
def SinkCompletesUptoSaid : Prop := sinkCompletesUptoRow.holds Try.pinned (OpenSpec.upto sinkCompletesSpec)

/-- 'spacecraftlaw28.SinkRefuses', WHERE WHAT IT READS IS OF BULK AT MOST 1048576: true; the input reads as it did. -/
def sinkRefusesUptoRow : OpenClaim := { program := "ytfjadhkhmhnccaa", sum := "e1559d2794627da5378d9c809202d7e956b211a9db0fdd841f0810941ecde24b", func := "spacecraft/spacecraftlaw28.SinkRefuses", spec := "sinkRefuses", unfollowed := true, recurses := true, apart := false, narrowed := true }
def SinkRefusesUptoSaid : Prop := sinkRefusesUptoRow.holds Try.pinned (OpenSpec.upto sinkRefusesSpec)

/-- 'spacecraftlaw28.SinkAsks', WHERE WHAT IT READS IS OF BULK AT MOST 1048576: true; the input reads as it did. -/
def sinkAsksUptoRow : OpenClaim := { program := "ytfjadhkhmhnccaa", sum := "e1559d2794627da5378d9c809202d7e956b211a9db0fdd841f0810941ecde24b", func := "spacecraft/spacecraftlaw28.SinkAsks", spec := "sinkAsks", unfollowed := true, recurses := true, apart := false, narrowed := true }
def SinkAsksUptoSaid : Prop := sinkAsksUptoRow.holds Try.pinned (OpenSpec.upto sinkAsksSpec)

/-- 'spacecraftlaw28.SinkTires', WHERE WHAT IT READS IS OF BULK AT MOST 1048576: true; the input reads as it did. -/
def sinkTiresUptoRow : OpenClaim := { program := "ytfjadhkhmhnccaa", sum := "e1559d2794627da5378d9c809202d7e956b211a9db0fdd841f0810941ecde24b", func := "spacecraft/spacecraftlaw28.SinkTires", spec := "sinkTires", unfollowed := true, recurses := true, apart := false, narrowed := true }
def SinkTiresUptoSaid : Prop := sinkTiresUptoRow.holds Try.pinned (OpenSpec.upto sinkTiresSpec)

/-- 'spacecraftlaw28.SinkMakes', WHERE WHAT IT READS IS OF BULK AT MOST 1048576: true; the input reads as it did. -/
def sinkMakesUptoRow : OpenClaim := { program := "ytfjadhkhmhnccaa", sum := "e1559d2794627da5378d9c809202d7e956b211a9db0fdd841f0810941ecde24b", func := "spacecraft/spacecraftlaw28.SinkMakes", spec := "sinkMakes", unfollowed := true, recurses := true, apart := false, narrowed := true }
def SinkMakesUptoSaid : Prop := sinkMakesUptoRow.holds Try.pinned (OpenSpec.upto sinkMakesSpec)

end Rows
end Go.Proofs.Ytfjadhkhmhnccaa
