/-
  No cell of these rows narrows 'for every input' (looked for: loops, veiled, ifaces, maps, wideKeys, modest, calm, conditions, laid).
  DERIVED. THE GIVEN ROWS OF THIS SEAT. 11 by the template 'for every input the law returns true; each argument reads behind the call as it read before'; 0 by the template 'total and deterministic' (their statements: YtigefaacknlkoaaTotals.lean).
  GIVEN WITH THE SEED: the statements are not yours to turn. If you find one false, say at which input.
  Laid BY PROGRAM, IN A SANDBOX (cutbox-rows.mjs): the forced cells as the released guide's own fill.sh prints them over the translation 735e56a84e5bcea4… (all of the seat's roots in one cut). By AI agents, Wed Nov 11 2026. No macro, syntax, notation, axiom, sorry.
-/
import Derived.Test.YtigefaacknlkoaaChecked
import GoSem.Claim
import GoSem.ClaimJoined
import GoSem.ClaimMapViews
import Derived.JoinedTies
import Derived.KernelRfl
namespace Go.Proofs.Ytigefaacknlkoaa
/- THE CELL 'sum', in the pinned program and in every row, IS THE sha256 OF THE DUMP (.gsa) THAT YtigefaacknlkoaaProg.lean LOADS. Nothing in Lean hashes anything: it is a label: what it is worth is what the hold of that sum in a sandbox is worth. -/
noncomputable def Try.pinned : Pinned := { name := "ytigefaacknlkoaa", sum := "735e56a84e5bcea449b6dec974ab40ae00142ab6ceb909f804619a9a57c89494", checked := Try.checked }
namespace Rows
def none {H : Type} : Left H := { results := [], args := [] }

/-- 'spacecraftlaw06.EccCodes': WHATEVER THE INPUT: true; the input reads as it did. -/
def eccCodesSpec : ChangeSpec := { name := "eccCodes", fn := fun _ => fun
  | [d] => { results := [.lit (.bool true)], args := [d] }
  | _ => none }
def eccCodesRow : OpenClaim := { program := "ytigefaacknlkoaa", sum := "735e56a84e5bcea449b6dec974ab40ae00142ab6ceb909f804619a9a57c89494", func := "spacecraft/spacecraftlaw06.EccCodes", spec := "eccCodes", apart := false }
def EccCodesSaid : Prop := eccCodesRow.holds Try.pinned (OpenSpec.ofChange eccCodesSpec)

/-- ITS FALSE NEIGHBOUR: 'it returns false'. Refute it at one input. -/
def eccCodesWrong : ChangeSpec := { name := "eccCodes", fn := fun _ => fun
  | [d] => { results := [.lit (.bool false)], args := [d] }
  | _ => none }
def EccCodesWrongFalsely : Prop := eccCodesRow.holds Try.pinned (OpenSpec.ofChange eccCodesWrong)

/-- 'spacecraftlaw06.EccDecodes': WHATEVER THE INPUT: true; the input reads as it did. -/
def eccDecodesSpec : ChangeSpec := { name := "eccDecodes", fn := fun _ => fun
  | [d] => { results := [.lit (.bool true)], args := [d] }
  | _ => none }
def eccDecodesRow : OpenClaim := { program := "ytigefaacknlkoaa", sum := "735e56a84e5bcea449b6dec974ab40ae00142ab6ceb909f804619a9a57c89494", func := "spacecraft/spacecraftlaw06.EccDecodes", spec := "eccDecodes", apart := false }
def EccDecodesSaid : Prop := eccDecodesRow.holds Try.pinned (OpenSpec.ofChange eccDecodesSpec)

/-- ITS FALSE NEIGHBOUR: 'it returns false'. Refute it at one input. -/
def eccDecodesWrong : ChangeSpec := { name := "eccDecodes", fn := fun _ => fun
  | [d] => { results := [.lit (.bool false)], args := [d] }
  | _ => none }
def EccDecodesWrongFalsely : Prop := eccDecodesRow.holds Try.pinned (OpenSpec.ofChange eccDecodesWrong)

/-- 'spacecraftlaw06.EccFlips': WHATEVER THE INPUT: true; the input reads as it did. -/
def eccFlipsSpec : ChangeSpec := { name := "eccFlips", fn := fun _ => fun
  | [d1, d2] => { results := [.lit (.bool true)], args := [d1, d2] }
  | _ => none }
def eccFlipsRow : OpenClaim := { program := "ytigefaacknlkoaa", sum := "735e56a84e5bcea449b6dec974ab40ae00142ab6ceb909f804619a9a57c89494", func := "spacecraft/spacecraftlaw06.EccFlips", spec := "eccFlips", apart := false }
def EccFlipsSaid : Prop := eccFlipsRow.holds Try.pinned (OpenSpec.ofChange eccFlipsSpec)

/-- ITS FALSE NEIGHBOUR: 'it returns false'. Refute it at one input. -/
def eccFlipsWrong : ChangeSpec := { name := "eccFlips", fn := fun _ => fun
  | [d1, d2] => { results := [.lit (.bool false)], args := [d1, d2] }
  | _ => none }
def EccFlipsWrongFalsely : Prop := eccFlipsRow.holds Try.pinned (OpenSpec.ofChange eccFlipsWrong)

/-- 'spacecraftlaw06.EccCorrects': WHATEVER THE INPUT: true; the input reads as it did. -/
def eccCorrectsSpec : ChangeSpec := { name := "eccCorrects", fn := fun _ => fun
  | [d1, d2, d3] => { results := [.lit (.bool true)], args := [d1, d2, d3] }
  | _ => none }
def eccCorrectsRow : OpenClaim := { program := "ytigefaacknlkoaa", sum := "735e56a84e5bcea449b6dec974ab40ae00142ab6ceb909f804619a9a57c89494", func := "spacecraft/spacecraftlaw06.EccCorrects", spec := "eccCorrects", apart := false }
def EccCorrectsSaid : Prop := eccCorrectsRow.holds Try.pinned (OpenSpec.ofChange eccCorrectsSpec)

/-- ITS FALSE NEIGHBOUR: 'it returns false'. Refute it at one input. -/
def eccCorrectsWrong : ChangeSpec := { name := "eccCorrects", fn := fun _ => fun
  | [d1, d2, d3] => { results := [.lit (.bool false)], args := [d1, d2, d3] }
  | _ => none }
def EccCorrectsWrongFalsely : Prop := eccCorrectsRow.holds Try.pinned (OpenSpec.ofChange eccCorrectsWrong)

/-- 'spacecraftlaw06.EccDistance': WHATEVER THE INPUT: true; the input reads as it did. -/
def eccDistanceSpec : ChangeSpec := { name := "eccDistance", fn := fun _ => fun
  | [d1, d2] => { results := [.lit (.bool true)], args := [d1, d2] }
  | _ => none }
def eccDistanceRow : OpenClaim := { program := "ytigefaacknlkoaa", sum := "735e56a84e5bcea449b6dec974ab40ae00142ab6ceb909f804619a9a57c89494", func := "spacecraft/spacecraftlaw06.EccDistance", spec := "eccDistance", apart := false }
def EccDistanceSaid : Prop := eccDistanceRow.holds Try.pinned (OpenSpec.ofChange eccDistanceSpec)

/-- ITS FALSE NEIGHBOUR: 'it returns false'. Refute it at one input. -/
def eccDistanceWrong : ChangeSpec := { name := "eccDistance", fn := fun _ => fun
  | [d1, d2] => { results := [.lit (.bool false)], args := [d1, d2] }
  | _ => none }
def EccDistanceWrongFalsely : Prop := eccDistanceRow.holds Try.pinned (OpenSpec.ofChange eccDistanceWrong)

/-- 'spacecraftlaw06.EccLinear': WHATEVER THE INPUT: true; the input reads as it did. -/
def eccLinearSpec : ChangeSpec := { name := "eccLinear", fn := fun _ => fun
  | [d1, d2] => { results := [.lit (.bool true)], args := [d1, d2] }
  | _ => none }
def eccLinearRow : OpenClaim := { program := "ytigefaacknlkoaa", sum := "735e56a84e5bcea449b6dec974ab40ae00142ab6ceb909f804619a9a57c89494", func := "spacecraft/spacecraftlaw06.EccLinear", spec := "eccLinear", apart := false }
def EccLinearSaid : Prop := eccLinearRow.holds Try.pinned (OpenSpec.ofChange eccLinearSpec)

/-- ITS FALSE NEIGHBOUR: 'it returns false'. Refute it at one input. -/
def eccLinearWrong : ChangeSpec := { name := "eccLinear", fn := fun _ => fun
  | [d1, d2] => { results := [.lit (.bool false)], args := [d1, d2] }
  | _ => none }
def EccLinearWrongFalsely : Prop := eccLinearRow.holds Try.pinned (OpenSpec.ofChange eccLinearWrong)

/-- 'spacecraftlaw30.MemoryPlays': WHATEVER THE INPUT: true; the input reads as it did. -/
def memoryPlaysSpec : ChangeSpec := { name := "memoryPlays", fn := fun _ => fun
  | [d1, d2] => { results := [.lit (.bool true)], args := [d1, d2] }
  | _ => none }
def memoryPlaysRow : OpenClaim := { program := "ytigefaacknlkoaa", sum := "735e56a84e5bcea449b6dec974ab40ae00142ab6ceb909f804619a9a57c89494", func := "spacecraft/spacecraftlaw30.MemoryPlays", spec := "memoryPlays", apart := false }
def MemoryPlaysSaid : Prop := memoryPlaysRow.holds Try.pinned (OpenSpec.ofChange memoryPlaysSpec)

/-- ITS FALSE NEIGHBOUR: 'it returns false'. Refute it at one input. -/
def memoryPlaysWrong : ChangeSpec := { name := "memoryPlays", fn := fun _ => fun
  | [d1, d2] => { results := [.lit (.bool false)], args := [d1, d2] }
  | _ => none }
def MemoryPlaysWrongFalsely : Prop := memoryPlaysRow.holds Try.pinned (OpenSpec.ofChange memoryPlaysWrong)

/-- 'spacecraftlaw30.MemoryHolds': WHATEVER THE INPUT: true; the input reads as it did. -/
def memoryHoldsSpec : ChangeSpec := { name := "memoryHolds", fn := fun _ => fun
  | [d1, d2] => { results := [.lit (.bool true)], args := [d1, d2] }
  | _ => none }
def memoryHoldsRow : OpenClaim := { program := "ytigefaacknlkoaa", sum := "735e56a84e5bcea449b6dec974ab40ae00142ab6ceb909f804619a9a57c89494", func := "spacecraft/spacecraftlaw30.MemoryHolds", spec := "memoryHolds", apart := false }
def MemoryHoldsSaid : Prop := memoryHoldsRow.holds Try.pinned (OpenSpec.ofChange memoryHoldsSpec)

/-- ITS FALSE NEIGHBOUR: 'it returns false'. Refute it at one input. -/
def memoryHoldsWrong : ChangeSpec := { name := "memoryHolds", fn := fun _ => fun
  | [d1, d2] => { results := [.lit (.bool false)], args := [d1, d2] }
  | _ => none }
def MemoryHoldsWrongFalsely : Prop := memoryHoldsRow.holds Try.pinned (OpenSpec.ofChange memoryHoldsWrong)

/-- 'spacecraftlaw30.MemoryDetects': WHATEVER THE INPUT: true; the input reads as it did. -/
def memoryDetectsSpec : ChangeSpec := { name := "memoryDetects", fn := fun _ => fun
  | [d1, d2, d3] => { results := [.lit (.bool true)], args := [d1, d2, d3] }
  | _ => none }
def memoryDetectsRow : OpenClaim := { program := "ytigefaacknlkoaa", sum := "735e56a84e5bcea449b6dec974ab40ae00142ab6ceb909f804619a9a57c89494", func := "spacecraft/spacecraftlaw30.MemoryDetects", spec := "memoryDetects", apart := false }
def MemoryDetectsSaid : Prop := memoryDetectsRow.holds Try.pinned (OpenSpec.ofChange memoryDetectsSpec)

/-- ITS FALSE NEIGHBOUR: 'it returns false'. Refute it at one input. -/
def memoryDetectsWrong : ChangeSpec := { name := "memoryDetects", fn := fun _ => fun
  | [d1, d2, d3] => { results := [.lit (.bool false)], args := [d1, d2, d3] }
  | _ => none }
def MemoryDetectsWrongFalsely : Prop := memoryDetectsRow.holds Try.pinned (OpenSpec.ofChange memoryDetectsWrong)

/-- 'spacecraftlaw30.MemoryClones': WHATEVER THE INPUT: true; the input reads as it did. -/
def memoryClonesSpec : ChangeSpec := { name := "memoryClones", fn := fun _ => fun
  | [d1, d2] => { results := [.lit (.bool true)], args := [d1, d2] }
  | _ => none }
def memoryClonesRow : OpenClaim := { program := "ytigefaacknlkoaa", sum := "735e56a84e5bcea449b6dec974ab40ae00142ab6ceb909f804619a9a57c89494", func := "spacecraft/spacecraftlaw30.MemoryClones", spec := "memoryClones", apart := false }
def MemoryClonesSaid : Prop := memoryClonesRow.holds Try.pinned (OpenSpec.ofChange memoryClonesSpec)

/-- ITS FALSE NEIGHBOUR: 'it returns false'. Refute it at one input. -/
def memoryClonesWrong : ChangeSpec := { name := "memoryClones", fn := fun _ => fun
  | [d1, d2] => { results := [.lit (.bool false)], args := [d1, d2] }
  | _ => none }
def MemoryClonesWrongFalsely : Prop := memoryClonesRow.holds Try.pinned (OpenSpec.ofChange memoryClonesWrong)

/-- 'spacecraftlaw30.MemoryNone': WHATEVER THE INPUT: true; the input reads as it did. -/
def memoryNoneSpec : ChangeSpec := { name := "memoryNone", fn := fun _ => fun
  | [d] => { results := [.lit (.bool true)], args := [d] }
  | _ => none }
def memoryNoneRow : OpenClaim := { program := "ytigefaacknlkoaa", sum := "735e56a84e5bcea449b6dec974ab40ae00142ab6ceb909f804619a9a57c89494", func := "spacecraft/spacecraftlaw30.MemoryNone", spec := "memoryNone", apart := false }
def MemoryNoneSaid : Prop := memoryNoneRow.holds Try.pinned (OpenSpec.ofChange memoryNoneSpec)

/-- ITS FALSE NEIGHBOUR: 'it returns false'. Refute it at one input. -/
def memoryNoneWrong : ChangeSpec := { name := "memoryNone", fn := fun _ => fun
  | [d] => { results := [.lit (.bool false)], args := [d] }
  | _ => none }
def MemoryNoneWrongFalsely : Prop := memoryNoneRow.holds Try.pinned (OpenSpec.ofChange memoryNoneWrong)

/- THE SECOND FORM. 'bulk': how many values and letters a reading holds, each counted each time it is reached (what is shared counts as often as it is met; a slice's spare places count too). A statement '..UptoSaid' is the law's where the arguments, and the package variables that the reading takes, are together of bulk at most 1048576: NARROWER than '..Said'. Prove '..Said' where nothing that the law and all that it calls make is longer than what came in: it says more and counts as full. Else prove '..UptoSaid'. A law counts once. -/
mutual
def uptoBulk {H : Type} : DataW H → Nat
  | .lit (.string bytes) => bytes.length + 1
  | .lit _ => 1
  | .nil => 1
  | .ptr d => uptoBulk d + 1
  | .slice elems spare => uptoBulkAll elems + uptoBulkAll spare + 1
  | .agg parts => uptoBulkAll parts + 1
  | .iface _ d => uptoBulk d + 1
  | .map entries => uptoBulkEntries entries + 1
  | .held _ => 1
def uptoBulkAll {H : Type} : List (DataW H) → Nat
  | [] => 0
  | d :: r => uptoBulk d + uptoBulkAll r
def uptoBulkEntries {H : Type} : List (Lit × DataW H) → Nat
  | [] => 0
  | x :: r => uptoBulkEntry x + uptoBulkEntries r
def uptoBulkEntry {H : Type} : Lit × DataW H → Nat
  | (.string bytes, d) => bytes.length + uptoBulk d + 1
  | (_, d) => uptoBulk d + 1
 end
def uptoSmall : (H : Type) → List (DataW H) → Bool := fun _ ds => decide (uptoBulkAll ds ≤ 1048576)
def OpenSpec.upto (s : _root_.Go.ChangeSpec) : _root_.Go.OpenSpec := { _root_.Go.OpenSpec.ofChange s with cond := some uptoSmall }

/-- 'spacecraftlaw06.EccCodes', WHERE WHAT IT READS IS OF BULK AT MOST 1048576: true; the input reads as it did. -/
def eccCodesUptoRow : OpenClaim := { program := "ytigefaacknlkoaa", sum := "735e56a84e5bcea449b6dec974ab40ae00142ab6ceb909f804619a9a57c89494", func := "spacecraft/spacecraftlaw06.EccCodes", spec := "eccCodes", apart := false, narrowed := true }
def EccCodesUptoSaid : Prop := eccCodesUptoRow.holds Try.pinned (OpenSpec.upto eccCodesSpec)

/-- 'spacecraftlaw06.EccDecodes', WHERE WHAT IT READS IS OF BULK AT MOST 1048576: true; the input reads as it did. -/
def eccDecodesUptoRow : OpenClaim := { program := "ytigefaacknlkoaa", sum := "735e56a84e5bcea449b6dec974ab40ae00142ab6ceb909f804619a9a57c89494", func := "spacecraft/spacecraftlaw06.EccDecodes", spec := "eccDecodes", apart := false, narrowed := true }
def EccDecodesUptoSaid : Prop := eccDecodesUptoRow.holds Try.pinned (OpenSpec.upto eccDecodesSpec)

/-- 'spacecraftlaw06.EccFlips', WHERE WHAT IT READS IS OF BULK AT MOST 1048576: true; the input reads as it did. -/
def eccFlipsUptoRow : OpenClaim := { program := "ytigefaacknlkoaa", sum := "735e56a84e5bcea449b6dec974ab40ae00142ab6ceb909f804619a9a57c89494", func := "spacecraft/spacecraftlaw06.EccFlips", spec := "eccFlips", apart := false, narrowed := true }
def EccFlipsUptoSaid : Prop := eccFlipsUptoRow.holds Try.pinned (OpenSpec.upto eccFlipsSpec)

/-- 'spacecraftlaw06.EccCorrects', WHERE WHAT IT READS IS OF BULK AT MOST 1048576: true; the input reads as it did. -/
def eccCorrectsUptoRow : OpenClaim := { program := "ytigefaacknlkoaa", sum := "735e56a84e5bcea449b6dec974ab40ae00142ab6ceb909f804619a9a57c89494", func := "spacecraft/spacecraftlaw06.EccCorrects", spec := "eccCorrects", apart := false, narrowed := true }
def EccCorrectsUptoSaid : Prop := eccCorrectsUptoRow.holds Try.pinned (OpenSpec.upto eccCorrectsSpec)

/-- 'spacecraftlaw06.EccDistance', WHERE WHAT IT READS IS OF BULK AT MOST 1048576: true; the input reads as it did. -/
def eccDistanceUptoRow : OpenClaim := { program := "ytigefaacknlkoaa", sum := "735e56a84e5bcea449b6dec974ab40ae00142ab6ceb909f804619a9a57c89494", func := "spacecraft/spacecraftlaw06.EccDistance", spec := "eccDistance", apart := false, narrowed := true }
def EccDistanceUptoSaid : Prop := eccDistanceUptoRow.holds Try.pinned (OpenSpec.upto eccDistanceSpec)

/-- 'spacecraftlaw06.EccLinear', WHERE WHAT IT READS IS OF BULK AT MOST 1048576: true; the input reads as it did. -/
def eccLinearUptoRow : OpenClaim := { program := "ytigefaacknlkoaa", sum := "735e56a84e5bcea449b6dec974ab40ae00142ab6ceb909f804619a9a57c89494", func := "spacecraft/spacecraftlaw06.EccLinear", spec := "eccLinear", apart := false, narrowed := true }
def EccLinearUptoSaid : Prop := eccLinearUptoRow.holds Try.pinned (OpenSpec.upto eccLinearSpec)

/-- 'spacecraftlaw30.MemoryPlays', WHERE WHAT IT READS IS OF BULK AT MOST 1048576: true; the input reads as it did. -/
def memoryPlaysUptoRow : OpenClaim := { program := "ytigefaacknlkoaa", sum := "735e56a84e5bcea449b6dec974ab40ae00142ab6ceb909f804619a9a57c89494", func := "spacecraft/spacecraftlaw30.MemoryPlays", spec := "memoryPlays", apart := false, narrowed := true }
def MemoryPlaysUptoSaid : Prop := memoryPlaysUptoRow.holds Try.pinned (OpenSpec.upto memoryPlaysSpec)

/-- 'spacecraftlaw30.MemoryHolds', WHERE WHAT IT READS IS OF BULK AT MOST 1048576: true; the input reads as it did. -/
def memoryHoldsUptoRow : OpenClaim := { program := "ytigefaacknlkoaa", sum := "735e56a84e5bcea449b6dec974ab40ae00142ab6ceb909f804619a9a57c89494", func := "spacecraft/spacecraftlaw30.MemoryHolds", spec := "memoryHolds", apart := false, narrowed := true }
def MemoryHoldsUptoSaid : Prop := memoryHoldsUptoRow.holds Try.pinned (OpenSpec.upto memoryHoldsSpec)

/-- 'spacecraftlaw30.MemoryDetects', WHERE WHAT IT READS IS OF BULK AT MOST 1048576: true; the input reads as it did. -/
def memoryDetectsUptoRow : OpenClaim := { program := "ytigefaacknlkoaa", sum := "735e56a84e5bcea449b6dec974ab40ae00142ab6ceb909f804619a9a57c89494", func := "spacecraft/spacecraftlaw30.MemoryDetects", spec := "memoryDetects", apart := false, narrowed := true }
def MemoryDetectsUptoSaid : Prop := memoryDetectsUptoRow.holds Try.pinned (OpenSpec.upto memoryDetectsSpec)

/-- 'spacecraftlaw30.MemoryClones', WHERE WHAT IT READS IS OF BULK AT MOST 1048576: true; the input reads as it did. -/
def memoryClonesUptoRow : OpenClaim := { program := "ytigefaacknlkoaa", sum := "735e56a84e5bcea449b6dec974ab40ae00142ab6ceb909f804619a9a57c89494", func := "spacecraft/spacecraftlaw30.MemoryClones", spec := "memoryClones", apart := false, narrowed := true }
def MemoryClonesUptoSaid : Prop := memoryClonesUptoRow.holds Try.pinned (OpenSpec.upto memoryClonesSpec)

/-- 'spacecraftlaw30.MemoryNone', WHERE WHAT IT READS IS OF BULK AT MOST 1048576: true; the input reads as it did. -/
def memoryNoneUptoRow : OpenClaim := { program := "ytigefaacknlkoaa", sum := "735e56a84e5bcea449b6dec974ab40ae00142ab6ceb909f804619a9a57c89494", func := "spacecraft/spacecraftlaw30.MemoryNone", spec := "memoryNone", apart := false, narrowed := true }
def MemoryNoneUptoSaid : Prop := memoryNoneUptoRow.holds Try.pinned (OpenSpec.upto memoryNoneSpec)

end Rows
end Go.Proofs.Ytigefaacknlkoaa
