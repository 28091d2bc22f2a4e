/-
  No cell of these rows narrows 'for every input' (looked for: loops, veiled, ifaces, maps, wideKeys, modest, calm, conditions, laid).
  DERIVED. THE GIVEN ROWS OF THIS SEAT. 4 by the template 'for every input the law returns true; each argument reads behind the call as it read before'; 0 by the template 'total and deterministic' (their statements: YtjnnjgogpapbhaaTotals.lean).
  GIVEN WITH THE SEED: the statements are not yours to turn. If you find one false, say at which input.
  Laid BY PROGRAM, IN A SANDBOX (cutbox-rows.mjs): the forced cells as the released guide's own fill.sh prints them over the translation 2450683f1666fe29… (all of the seat's roots in one cut). By AI agents, Wed Nov 11 2026. No macro, syntax, notation, axiom, sorry.
-/
import Derived.Test.YtjnnjgogpapbhaaChecked
import GoSem.Claim
import GoSem.ClaimJoined
import GoSem.ClaimMapViews
import Derived.JoinedTies
import Derived.KernelRfl
namespace Go.Proofs.Ytjnnjgogpapbhaa
/- THE CELL 'sum', in the pinned program and in every row, IS THE sha256 OF THE DUMP (.gsa) THAT YtjnnjgogpapbhaaProg.lean LOADS. Nothing in Lean hashes anything: it is a label: what it is worth is what the hold of that sum in a sandbox is worth. -/
noncomputable def Try.pinned : Pinned := { name := "ytjnnjgogpapbhaa", sum := "2450683f1666fe29ba437989f57534de4b825a8d54b904c71b08b8c1628b9807", checked := Try.checked }
namespace Rows
def none {H : Type} : Left H := { results := [], args := [] }

/-- 'laws.FnMachineValid': WHATEVER THE INPUT: true; the input reads as it did. -/
def fnMachineValidSpec : ChangeSpec := { name := "fnMachineValid", fn := fun _ => fun
  | [d] => { results := [.lit (.bool true)], args := [d] }
  | _ => none }
def fnMachineValidRow : OpenClaim := { program := "ytjnnjgogpapbhaa", sum := "2450683f1666fe29ba437989f57534de4b825a8d54b904c71b08b8c1628b9807", func := "loop.example/objectlinker/laws.FnMachineValid", spec := "fnMachineValid", unfollowed := true, recurses := true, apart := false }
def FnMachineValidSaid : Prop := fnMachineValidRow.holds Try.pinned (OpenSpec.ofChange fnMachineValidSpec)

/-- ITS FALSE NEIGHBOUR: 'it returns false'. Refute it at one input. -/
def fnMachineValidWrong : ChangeSpec := { name := "fnMachineValid", fn := fun _ => fun
  | [d] => { results := [.lit (.bool false)], args := [d] }
  | _ => none }
def FnMachineValidWrongFalsely : Prop := fnMachineValidRow.holds Try.pinned (OpenSpec.ofChange fnMachineValidWrong)

/-- 'laws.FnExactApplyPatches': WHATEVER THE INPUT: true; the input reads as it did. -/
def fnExactApplyPatchesSpec : ChangeSpec := { name := "fnExactApplyPatches", fn := fun _ => fun
  | [d1, d2] => { results := [.lit (.bool true)], args := [d1, d2] }
  | _ => none }
def fnExactApplyPatchesRow : OpenClaim := { program := "ytjnnjgogpapbhaa", sum := "2450683f1666fe29ba437989f57534de4b825a8d54b904c71b08b8c1628b9807", func := "loop.example/objectlinker/laws.FnExactApplyPatches", spec := "fnExactApplyPatches", apart := false }
def FnExactApplyPatchesSaid : Prop := fnExactApplyPatchesRow.holds Try.pinned (OpenSpec.ofChange fnExactApplyPatchesSpec)

/-- ITS FALSE NEIGHBOUR: 'it returns false'. Refute it at one input. -/
def fnExactApplyPatchesWrong : ChangeSpec := { name := "fnExactApplyPatches", fn := fun _ => fun
  | [d1, d2] => { results := [.lit (.bool false)], args := [d1, d2] }
  | _ => none }
def FnExactApplyPatchesWrongFalsely : Prop := fnExactApplyPatchesRow.holds Try.pinned (OpenSpec.ofChange fnExactApplyPatchesWrong)

/-- 'laws.FnExactStepMachine': WHATEVER THE INPUT: true; the input reads as it did. -/
def fnExactStepMachineSpec : ChangeSpec := { name := "fnExactStepMachine", fn := fun _ => fun
  | [d1, d2] => { results := [.lit (.bool true)], args := [d1, d2] }
  | _ => none }
def fnExactStepMachineRow : OpenClaim := { program := "ytjnnjgogpapbhaa", sum := "2450683f1666fe29ba437989f57534de4b825a8d54b904c71b08b8c1628b9807", func := "loop.example/objectlinker/laws.FnExactStepMachine", spec := "fnExactStepMachine", unfollowed := true, recurses := true, apart := false }
def FnExactStepMachineSaid : Prop := fnExactStepMachineRow.holds Try.pinned (OpenSpec.ofChange fnExactStepMachineSpec)

/-- ITS FALSE NEIGHBOUR: 'it returns false'. Refute it at one input. -/
def fnExactStepMachineWrong : ChangeSpec := { name := "fnExactStepMachine", fn := fun _ => fun
  | [d1, d2] => { results := [.lit (.bool false)], args := [d1, d2] }
  | _ => none }
def FnExactStepMachineWrongFalsely : Prop := fnExactStepMachineRow.holds Try.pinned (OpenSpec.ofChange fnExactStepMachineWrong)

/-- 'laws.FnStepMachine': WHATEVER THE INPUT: true; the input reads as it did. -/
def fnStepMachineSpec : ChangeSpec := { name := "fnStepMachine", fn := fun _ => fun
  | [d] => { results := [.lit (.bool true)], args := [d] }
  | _ => none }
def fnStepMachineRow : OpenClaim := { program := "ytjnnjgogpapbhaa", sum := "2450683f1666fe29ba437989f57534de4b825a8d54b904c71b08b8c1628b9807", func := "loop.example/objectlinker/laws.FnStepMachine", spec := "fnStepMachine", unfollowed := true, recurses := true, apart := false }
def FnStepMachineSaid : Prop := fnStepMachineRow.holds Try.pinned (OpenSpec.ofChange fnStepMachineSpec)

/-- ITS FALSE NEIGHBOUR: 'it returns false'. Refute it at one input. -/
def fnStepMachineWrong : ChangeSpec := { name := "fnStepMachine", fn := fun _ => fun
  | [d] => { results := [.lit (.bool false)], args := [d] }
  | _ => none }
def FnStepMachineWrongFalsely : Prop := fnStepMachineRow.holds Try.pinned (OpenSpec.ofChange fnStepMachineWrong)

/- THE SECOND FORM. 'bulk': how many values and letters a reading holds, each counted each time it is reached (what is shared counts as often as it is met; a slice's spare places count too). A statement '..UptoSaid' is the law's where the arguments, and the package variables that the reading takes, are together of bulk at most 1048576: NARROWER than '..Said'. Prove '..Said' where nothing that the law and all that it calls make is longer than what came in: it says more and counts as full. Else prove '..UptoSaid'. A law counts once. -/
mutual
def uptoBulk {H : Type} : DataW H → Nat
  | .lit (.string bytes) => bytes.length + 1
  | .lit _ => 1
  | .nil => 1
  | .ptr d => uptoBulk d + 1
  | .slice elems spare => uptoBulkAll elems + uptoBulkAll spare + 1
  | .agg parts => uptoBulkAll parts + 1
  | .iface _ d => uptoBulk d + 1
  | .map entries => uptoBulkEntries entries + 1
  | .held _ => 1
def uptoBulkAll {H : Type} : List (DataW H) → Nat
  | [] => 0
  | d :: r => uptoBulk d + uptoBulkAll r
def uptoBulkEntries {H : Type} : List (Lit × DataW H) → Nat
  | [] => 0
  | x :: r => uptoBulkEntry x + uptoBulkEntries r
def uptoBulkEntry {H : Type} : Lit × DataW H → Nat
  | (.string bytes, d) => bytes.length + uptoBulk d + 1
  | (_, d) => uptoBulk d + 1
 end
def uptoSmall : (H : Type) → List (DataW H) → Bool := fun _ ds => decide (uptoBulkAll ds ≤ 1048576)
def OpenSpec.upto (s : _root_.Go.ChangeSpec) : _root_.Go.OpenSpec := { _root_.Go.OpenSpec.ofChange s with cond := some uptoSmall }

/-- 'laws.FnMachineValid', WHERE WHAT IT READS IS OF BULK AT MOST 1048576: true; the input reads as it did. -/
def fnMachineValidUptoRow : OpenClaim := { program := "ytjnnjgogpapbhaa", sum := "2450683f1666fe29ba437989f57534de4b825a8d54b904c71b08b8c1628b9807", func := "loop.example/objectlinker/laws.FnMachineValid", spec := "fnMachineValid", unfollowed := true, recurses := true, apart := false, narrowed := true }
def FnMachineValidUptoSaid : Prop := fnMachineValidUptoRow.holds Try.pinned (OpenSpec.upto fnMachineValidSpec)

/-- 'laws.FnExactApplyPatches', WHERE WHAT IT READS IS OF BULK AT MOST 1048576: true; the input reads as it did. -/
def fnExactApplyPatchesUptoRow : OpenClaim := { program := "ytjnnjgogpapbhaa", sum := "2450683f1666fe29ba437989f57534de4b825a8d54b904c71b08b8c1628b9807", func := "loop.example/objectlinker/laws.FnExactApplyPatches", spec := "fnExactApplyPatches", apart := false, narrowed := true }
def FnExactApplyPatchesUptoSaid : Prop := fnExactApplyPatchesUptoRow.holds Try.pinned (OpenSpec.upto fnExactApplyPatchesSpec)

/-- 'laws.FnExactStepMachine', WHERE WHAT IT READS IS OF BULK AT MOST 1048576: true; the input reads as it did. -/
def fnExactStepMachineUptoRow : OpenClaim := { program := "ytjnnjgogpapbhaa", sum := "2450683f1666fe29ba437989f57534de4b825a8d54b904c71b08b8c1628b9807", func := "loop.example/objectlinker/laws.FnExactStepMachine", spec := "fnExactStepMachine", unfollowed := true, recurses := true, apart := false, narrowed := true }
def FnExactStepMachineUptoSaid : Prop := fnExactStepMachineUptoRow.holds Try.pinned (OpenSpec.upto fnExactStepMachineSpec)

/-- 'laws.FnStepMachine', WHERE WHAT IT READS IS OF BULK AT MOST 1048576: true; the input reads as it did. -/
def fnStepMachineUptoRow : OpenClaim := { program := "ytjnnjgogpapbhaa", sum := "2450683f1666fe29ba437989f57534de4b825a8d54b904c71b08b8c1628b9807", func := "loop.example/objectlinker/laws.FnStepMachine", spec := "fnStepMachine", unfollowed := true, recurses := true, apart := false, narrowed := true }
def FnStepMachineUptoSaid : Prop := fnStepMachineUptoRow.holds Try.pinned (OpenSpec.upto fnStepMachineSpec)

end Rows
end Go.Proofs.Ytjnnjgogpapbhaa
