/-
  No cell of these rows narrows 'for every input' (looked for: loops, veiled, ifaces, maps, wideKeys, modest, calm, conditions, laid).
  DERIVED. THE GIVEN ROWS OF THIS SEAT. 6 by the template 'for every input the law returns true; each argument reads behind the call as it read before'; 0 by the template 'total and deterministic' (their statements: YtgidckkcibplgaaGreatTotals.lean).
  GIVEN WITH THE SEED: the statements are not yours to turn. If you find one false, say at which input.
  Laid BY PROGRAM, IN A SANDBOX (cutbox-rows.mjs): the forced cells as the released guide's own fill.sh prints them over the translation 9592899f4af758af… (all of the seat's roots in one cut). By AI agents, Wed Nov 11 2026. No macro, syntax, notation, axiom, sorry.
-/
import Derived.Test.YtgidckkcibplgaaGreatChecked
import GoSem.Claim
import GoSem.ClaimJoined
import GoSem.ClaimMapViews
import Derived.JoinedTies
import Derived.KernelRfl
namespace Go.Proofs.YtgidckkcibplgaaGreat
/- THE CELL 'sum', in the pinned program and in every row, IS THE sha256 OF THE DUMP (.gsa) THAT YtgidckkcibplgaaGreatProg.lean LOADS. Nothing in Lean hashes anything: it is a label: what it is worth is what the hold of that sum in a sandbox is worth. -/
noncomputable def Tryz.pinned : Pinned := { name := "ytgidckkcibplgaagreat", sum := "9592899f4af758afec5a07baa6a0929367b965a2e032f1e2353f850ca50def47", checked := Tryz.checked }
namespace Rows
def none {H : Type} : Left H := { results := [], args := [] }

/-- 'spacecraftlaw29.CourierRestores': WHATEVER THE INPUT: true; the input reads as it did. -/
def courierRestoresSpec : ChangeSpec := { name := "courierRestores", fn := fun _ => fun
  | [d1, d2, d3, d4] => { results := [.lit (.bool true)], args := [d1, d2, d3, d4] }
  | _ => none }
def courierRestoresRow : OpenClaim := { program := "ytgidckkcibplgaagreat", sum := "9592899f4af758afec5a07baa6a0929367b965a2e032f1e2353f850ca50def47", func := "spacecraft/spacecraftlaw29.CourierRestores", spec := "courierRestores", unfollowed := true, recurses := true, plainKeys := false, apart := false }
def CourierRestoresSaid : Prop := courierRestoresRow.holds Tryz.pinned (OpenSpec.ofChange courierRestoresSpec)

/-- ITS FALSE NEIGHBOUR: 'it returns false'. Refute it at one input. -/
def courierRestoresWrong : ChangeSpec := { name := "courierRestores", fn := fun _ => fun
  | [d1, d2, d3, d4] => { results := [.lit (.bool false)], args := [d1, d2, d3, d4] }
  | _ => none }
def CourierRestoresWrongFalsely : Prop := courierRestoresRow.holds Tryz.pinned (OpenSpec.ofChange courierRestoresWrong)

/-- 'spacecraftlaw29.CourierHolds': WHATEVER THE INPUT: true; the input reads as it did. -/
def courierHoldsSpec : ChangeSpec := { name := "courierHolds", fn := fun _ => fun
  | [d1, d2, d3] => { results := [.lit (.bool true)], args := [d1, d2, d3] }
  | _ => none }
def courierHoldsRow : OpenClaim := { program := "ytgidckkcibplgaagreat", sum := "9592899f4af758afec5a07baa6a0929367b965a2e032f1e2353f850ca50def47", func := "spacecraft/spacecraftlaw29.CourierHolds", spec := "courierHolds", unfollowed := true, recurses := true, plainKeys := false, apart := false }
def CourierHoldsSaid : Prop := courierHoldsRow.holds Tryz.pinned (OpenSpec.ofChange courierHoldsSpec)

/-- ITS FALSE NEIGHBOUR: 'it returns false'. Refute it at one input. -/
def courierHoldsWrong : ChangeSpec := { name := "courierHolds", fn := fun _ => fun
  | [d1, d2, d3] => { results := [.lit (.bool false)], args := [d1, d2, d3] }
  | _ => none }
def CourierHoldsWrongFalsely : Prop := courierHoldsRow.holds Tryz.pinned (OpenSpec.ofChange courierHoldsWrong)

/-- 'spacecraftlaw29.CourierNil': WHATEVER THE INPUT: true; the input reads as it did. -/
def courierNilSpec : ChangeSpec := { name := "courierNil", fn := fun _ => fun
  | [d1, d2, d3] => { results := [.lit (.bool true)], args := [d1, d2, d3] }
  | _ => none }
def courierNilRow : OpenClaim := { program := "ytgidckkcibplgaagreat", sum := "9592899f4af758afec5a07baa6a0929367b965a2e032f1e2353f850ca50def47", func := "spacecraft/spacecraftlaw29.CourierNil", spec := "courierNil", inPlace := ["maps.clone"], unfollowed := true, recurses := true, plainKeys := false, apart := false }
def CourierNilSaid : Prop := courierNilRow.holds Tryz.pinned (OpenSpec.ofChange courierNilSpec)

/-- ITS FALSE NEIGHBOUR: 'it returns false'. Refute it at one input. -/
def courierNilWrong : ChangeSpec := { name := "courierNil", fn := fun _ => fun
  | [d1, d2, d3] => { results := [.lit (.bool false)], args := [d1, d2, d3] }
  | _ => none }
def CourierNilWrongFalsely : Prop := courierNilRow.holds Tryz.pinned (OpenSpec.ofChange courierNilWrong)

/-- 'spacecraftlaw29.CourierOnce': WHATEVER THE INPUT: true; the input reads as it did. -/
def courierOnceSpec : ChangeSpec := { name := "courierOnce", fn := fun _ => fun
  | [d1, d2, d3] => { results := [.lit (.bool true)], args := [d1, d2, d3] }
  | _ => none }
def courierOnceRow : OpenClaim := { program := "ytgidckkcibplgaagreat", sum := "9592899f4af758afec5a07baa6a0929367b965a2e032f1e2353f850ca50def47", func := "spacecraft/spacecraftlaw29.CourierOnce", spec := "courierOnce", unfollowed := true, recurses := true, plainKeys := false, apart := false }
def CourierOnceSaid : Prop := courierOnceRow.holds Tryz.pinned (OpenSpec.ofChange courierOnceSpec)

/-- ITS FALSE NEIGHBOUR: 'it returns false'. Refute it at one input. -/
def courierOnceWrong : ChangeSpec := { name := "courierOnce", fn := fun _ => fun
  | [d1, d2, d3] => { results := [.lit (.bool false)], args := [d1, d2, d3] }
  | _ => none }
def CourierOnceWrongFalsely : Prop := courierOnceRow.holds Tryz.pinned (OpenSpec.ofChange courierOnceWrong)

/-- 'spacecraftlaw29.CourierAgain': WHATEVER THE INPUT: true; the input reads as it did. -/
def courierAgainSpec : ChangeSpec := { name := "courierAgain", fn := fun _ => fun
  | [d1, d2] => { results := [.lit (.bool true)], args := [d1, d2] }
  | _ => none }
def courierAgainRow : OpenClaim := { program := "ytgidckkcibplgaagreat", sum := "9592899f4af758afec5a07baa6a0929367b965a2e032f1e2353f850ca50def47", func := "spacecraft/spacecraftlaw29.CourierAgain", spec := "courierAgain", unfollowed := true, recurses := true, plainKeys := false, apart := false }
def CourierAgainSaid : Prop := courierAgainRow.holds Tryz.pinned (OpenSpec.ofChange courierAgainSpec)

/-- ITS FALSE NEIGHBOUR: 'it returns false'. Refute it at one input. -/
def courierAgainWrong : ChangeSpec := { name := "courierAgain", fn := fun _ => fun
  | [d1, d2] => { results := [.lit (.bool false)], args := [d1, d2] }
  | _ => none }
def CourierAgainWrongFalsely : Prop := courierAgainRow.holds Tryz.pinned (OpenSpec.ofChange courierAgainWrong)

/-- 'spacecraftlaw29.CourierPlays': WHATEVER THE INPUT: true; the input reads as it did. -/
def courierPlaysSpec : ChangeSpec := { name := "courierPlays", fn := fun _ => fun
  | [d1, d2, d3, d4] => { results := [.lit (.bool true)], args := [d1, d2, d3, d4] }
  | _ => none }
def courierPlaysRow : OpenClaim := { program := "ytgidckkcibplgaagreat", sum := "9592899f4af758afec5a07baa6a0929367b965a2e032f1e2353f850ca50def47", func := "spacecraft/spacecraftlaw29.CourierPlays", spec := "courierPlays", inPlace := ["maps.clone"], unfollowed := true, recurses := true, plainKeys := false, apart := false }
def CourierPlaysSaid : Prop := courierPlaysRow.holds Tryz.pinned (OpenSpec.ofChange courierPlaysSpec)

/-- ITS FALSE NEIGHBOUR: 'it returns false'. Refute it at one input. -/
def courierPlaysWrong : ChangeSpec := { name := "courierPlays", fn := fun _ => fun
  | [d1, d2, d3, d4] => { results := [.lit (.bool false)], args := [d1, d2, d3, d4] }
  | _ => none }
def CourierPlaysWrongFalsely : Prop := courierPlaysRow.holds Tryz.pinned (OpenSpec.ofChange courierPlaysWrong)

/- THE SECOND FORM. 'bulk': how many values and letters a reading holds, each counted each time it is reached (what is shared counts as often as it is met; a slice's spare places count too). A statement '..UptoSaid' is the law's where the arguments, and the package variables that the reading takes, are together of bulk at most 1048576: NARROWER than '..Said'. Prove '..Said' where nothing that the law and all that it calls make is longer than what came in: it says more and counts as full. Else prove '..UptoSaid'. A law counts once. -/
mutual
def uptoBulk {H : Type} : DataW H → Nat
  | .lit (.string bytes) => bytes.length + 1
  | .lit _ => 1
  | .nil => 1
  | .ptr d => uptoBulk d + 1
  | .slice elems spare => uptoBulkAll elems + uptoBulkAll spare + 1
  | .agg parts => uptoBulkAll parts + 1
  | .iface _ d => uptoBulk d + 1
  | .map entries => uptoBulkEntries entries + 1
  | .held _ => 1
def uptoBulkAll {H : Type} : List (DataW H) → Nat
  | [] => 0
  | d :: r => uptoBulk d + uptoBulkAll r
def uptoBulkEntries {H : Type} : List (Lit × DataW H) → Nat
  | [] => 0
  | x :: r => uptoBulkEntry x + uptoBulkEntries r
def uptoBulkEntry {H : Type} : Lit × DataW H → Nat
  | (.string bytes, d) => bytes.length + uptoBulk d + 1
  | (_, d) => uptoBulk d + 1
 end
def uptoSmall : (H : Type) → List (DataW H) → Bool := fun _ ds => decide (uptoBulkAll ds ≤ 1048576)
def OpenSpec.upto (s : _root_.Go.ChangeSpec) : _root_.Go.OpenSpec := { _root_.Go.OpenSpec.ofChange s with cond := some uptoSmall }

/-- 'spacecraftlaw29.CourierRestores', WHERE WHAT IT READS IS OF BULK AT MOST 1048576: true; the input reads as it did. -/
def courierRestoresUptoRow : OpenClaim := { program := "ytgidckkcibplgaagreat", sum := "9592899f4af758afec5a07baa6a0929367b965a2e032f1e2353f850ca50def47", func := "spacecraft/spacecraftlaw29.CourierRestores", spec := "courierRestores", unfollowed := true, recurses := true, plainKeys := false, apart := false, narrowed := true }
def CourierRestoresUptoSaid : Prop := courierRestoresUptoRow.holds Tryz.pinned (OpenSpec.upto courierRestoresSpec)

/-- 'spacecraftlaw29.CourierHolds', WHERE WHAT IT READS IS OF BULK AT MOST 1048576: true; the input reads as it did. -/
def courierHoldsUptoRow : OpenClaim := { program := "ytgidckkcibplgaagreat", sum := "9592899f4af758afec5a07baa6a0929367b965a2e032f1e2353f850ca50def47", func := "spacecraft/spacecraftlaw29.CourierHolds", spec := "courierHolds", unfollowed := true, recurses := true, plainKeys := false, apart := false, narrowed := true }
def CourierHoldsUptoSaid : Prop := courierHoldsUptoRow.holds Tryz.pinned (OpenSpec.upto courierHoldsSpec)

/-- 'spacecraftlaw29.CourierNil', WHERE WHAT IT READS IS OF BULK AT MOST 1048576: true; the input reads as it did. -/
def courierNilUptoRow : OpenClaim := { program := "ytgidckkcibplgaagreat", sum := "9592899f4af758afec5a07baa6a0929367b965a2e032f1e2353f850ca50def47", func := "spacecraft/spacecraftlaw29.CourierNil", spec := "courierNil", inPlace := ["maps.clone"], unfollowed := true, recurses := true, plainKeys := false, apart := false, narrowed := true }
def CourierNilUptoSaid : Prop := courierNilUptoRow.holds Tryz.pinned (OpenSpec.upto courierNilSpec)

/-- 'spacecraftlaw29.CourierOnce', WHERE WHAT IT READS IS OF BULK AT MOST 1048576: true; the input reads as it did. -/
def courierOnceUptoRow : OpenClaim := { program := "ytgidckkcibplgaagreat", sum := "9592899f4af758afec5a07baa6a0929367b965a2e032f1e2353f850ca50def47", func := "spacecraft/spacecraftlaw29.CourierOnce", spec := "courierOnce", unfollowed := true, recurses := true, plainKeys := false, apart := false, narrowed := true }
def CourierOnceUptoSaid : Prop := courierOnceUptoRow.holds Tryz.pinned (OpenSpec.upto courierOnceSpec)

/-- 'spacecraftlaw29.CourierAgain', WHERE WHAT IT READS IS OF BULK AT MOST 1048576: true; the input reads as it did. -/
def courierAgainUptoRow : OpenClaim := { program := "ytgidckkcibplgaagreat", sum := "9592899f4af758afec5a07baa6a0929367b965a2e032f1e2353f850ca50def47", func := "spacecraft/spacecraftlaw29.CourierAgain", spec := "courierAgain", unfollowed := true, recurses := true, plainKeys := false, apart := false, narrowed := true }
def CourierAgainUptoSaid : Prop := courierAgainUptoRow.holds Tryz.pinned (OpenSpec.upto courierAgainSpec)

/-- 'spacecraftlaw29.CourierPlays', WHERE WHAT IT READS IS OF BULK AT MOST 1048576: true; the input reads as it did. -/
def courierPlaysUptoRow : OpenClaim := { program := "ytgidckkcibplgaagreat", sum := "9592899f4af758afec5a07baa6a0929367b965a2e032f1e2353f850ca50def47", func := "spacecraft/spacecraftlaw29.CourierPlays", spec := "courierPlays", inPlace := ["maps.clone"], unfollowed := true, recurses := true, plainKeys := false, apart := false, narrowed := true }
def CourierPlaysUptoSaid : Prop := courierPlaysUptoRow.holds Tryz.pinned (OpenSpec.upto courierPlaysSpec)

end Rows
end Go.Proofs.YtgidckkcibplgaaGreat
