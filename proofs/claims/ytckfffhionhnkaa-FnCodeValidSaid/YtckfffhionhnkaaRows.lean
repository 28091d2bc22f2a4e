/-
  No cell of these rows narrows 'for every input' (looked for: loops, veiled, ifaces, maps, wideKeys, modest, calm, conditions, laid).
  DERIVED. THE GIVEN ROWS OF THIS SEAT. 21 by the template 'for every input the law returns true; each argument reads behind the call as it read before'; 0 by the template 'total and deterministic' (their statements: YtckfffhionhnkaaTotals.lean).
  GIVEN WITH THE SEED: the statements are not yours to turn. If you find one false, say at which input.
  Laid BY PROGRAM, IN A SANDBOX (cutbox-rows.mjs): the forced cells as the released guide's own fill.sh prints them over the translation 3444927a1334a8d4… (all of the seat's roots in one cut). By AI agents, Wed Nov 11 2026. No macro, syntax, notation, axiom, sorry.
-/
import Derived.Test.YtckfffhionhnkaaChecked
import GoSem.Claim
import GoSem.ClaimJoined
import GoSem.ClaimMapViews
import Derived.JoinedTies
import Derived.KernelRfl
namespace Go.Proofs.Ytckfffhionhnkaa
/- THE CELL 'sum', in the pinned program and in every row, IS THE sha256 OF THE DUMP (.gsa) THAT YtckfffhionhnkaaProg.lean LOADS. Nothing in Lean hashes anything: it is a label: what it is worth is what the hold of that sum in a sandbox is worth. -/
noncomputable def Try.pinned : Pinned := { name := "ytckfffhionhnkaa", sum := "3444927a1334a8d4f45fd5721db9f279b82e6f2b620cdb9c5d48ba720fafd087", checked := Try.checked }
namespace Rows
def none {H : Type} : Left H := { results := [], args := [] }

/-- 'laws.FnExactUnwindStack': WHATEVER THE INPUT: true; the input reads as it did. -/
def fnExactUnwindStackSpec : ChangeSpec := { name := "fnExactUnwindStack", fn := fun _ => fun
  | [d1, d2, d3] => { results := [.lit (.bool true)], args := [d1, d2, d3] }
  | _ => none }
def fnExactUnwindStackRow : OpenClaim := { program := "ytckfffhionhnkaa", sum := "3444927a1334a8d4f45fd5721db9f279b82e6f2b620cdb9c5d48ba720fafd087", func := "loop.example/objectlinker/laws.FnExactUnwindStack", spec := "fnExactUnwindStack", apart := false }
def FnExactUnwindStackSaid : Prop := fnExactUnwindStackRow.holds Try.pinned (OpenSpec.ofChange fnExactUnwindStackSpec)

/-- ITS FALSE NEIGHBOUR: 'it returns false'. Refute it at one input. -/
def fnExactUnwindStackWrong : ChangeSpec := { name := "fnExactUnwindStack", fn := fun _ => fun
  | [d1, d2, d3] => { results := [.lit (.bool false)], args := [d1, d2, d3] }
  | _ => none }
def FnExactUnwindStackWrongFalsely : Prop := fnExactUnwindStackRow.holds Try.pinned (OpenSpec.ofChange fnExactUnwindStackWrong)

/-- 'laws.FnExactPutRows': WHATEVER THE INPUT: true; the input reads as it did. -/
def fnExactPutRowsSpec : ChangeSpec := { name := "fnExactPutRows", fn := fun _ => fun
  | [d] => { results := [.lit (.bool true)], args := [d] }
  | _ => none }
def fnExactPutRowsRow : OpenClaim := { program := "ytckfffhionhnkaa", sum := "3444927a1334a8d4f45fd5721db9f279b82e6f2b620cdb9c5d48ba720fafd087", func := "loop.example/objectlinker/laws.FnExactPutRows", spec := "fnExactPutRows", apart := false }
def FnExactPutRowsSaid : Prop := fnExactPutRowsRow.holds Try.pinned (OpenSpec.ofChange fnExactPutRowsSpec)

/-- ITS FALSE NEIGHBOUR: 'it returns false'. Refute it at one input. -/
def fnExactPutRowsWrong : ChangeSpec := { name := "fnExactPutRows", fn := fun _ => fun
  | [d] => { results := [.lit (.bool false)], args := [d] }
  | _ => none }
def FnExactPutRowsWrongFalsely : Prop := fnExactPutRowsRow.holds Try.pinned (OpenSpec.ofChange fnExactPutRowsWrong)

/-- 'laws.FnExactGetRows': WHATEVER THE INPUT: true; the input reads as it did. -/
def fnExactGetRowsSpec : ChangeSpec := { name := "fnExactGetRows", fn := fun _ => fun
  | [d] => { results := [.lit (.bool true)], args := [d] }
  | _ => none }
def fnExactGetRowsRow : OpenClaim := { program := "ytckfffhionhnkaa", sum := "3444927a1334a8d4f45fd5721db9f279b82e6f2b620cdb9c5d48ba720fafd087", func := "loop.example/objectlinker/laws.FnExactGetRows", spec := "fnExactGetRows", apart := false }
def FnExactGetRowsSaid : Prop := fnExactGetRowsRow.holds Try.pinned (OpenSpec.ofChange fnExactGetRowsSpec)

/-- ITS FALSE NEIGHBOUR: 'it returns false'. Refute it at one input. -/
def fnExactGetRowsWrong : ChangeSpec := { name := "fnExactGetRows", fn := fun _ => fun
  | [d] => { results := [.lit (.bool false)], args := [d] }
  | _ => none }
def FnExactGetRowsWrongFalsely : Prop := fnExactGetRowsRow.holds Try.pinned (OpenSpec.ofChange fnExactGetRowsWrong)

/-- 'laws.FnExactSealBytes': WHATEVER THE INPUT: true; the input reads as it did. -/
def fnExactSealBytesSpec : ChangeSpec := { name := "fnExactSealBytes", fn := fun _ => fun
  | [d] => { results := [.lit (.bool true)], args := [d] }
  | _ => none }
def fnExactSealBytesRow : OpenClaim := { program := "ytckfffhionhnkaa", sum := "3444927a1334a8d4f45fd5721db9f279b82e6f2b620cdb9c5d48ba720fafd087", func := "loop.example/objectlinker/laws.FnExactSealBytes", spec := "fnExactSealBytes", apart := false }
def FnExactSealBytesSaid : Prop := fnExactSealBytesRow.holds Try.pinned (OpenSpec.ofChange fnExactSealBytesSpec)

/-- ITS FALSE NEIGHBOUR: 'it returns false'. Refute it at one input. -/
def fnExactSealBytesWrong : ChangeSpec := { name := "fnExactSealBytes", fn := fun _ => fun
  | [d] => { results := [.lit (.bool false)], args := [d] }
  | _ => none }
def FnExactSealBytesWrongFalsely : Prop := fnExactSealBytesRow.holds Try.pinned (OpenSpec.ofChange fnExactSealBytesWrong)

/-- 'laws.FnExactOpenSeal': WHATEVER THE INPUT: true; the input reads as it did. -/
def fnExactOpenSealSpec : ChangeSpec := { name := "fnExactOpenSeal", fn := fun _ => fun
  | [d] => { results := [.lit (.bool true)], args := [d] }
  | _ => none }
def fnExactOpenSealRow : OpenClaim := { program := "ytckfffhionhnkaa", sum := "3444927a1334a8d4f45fd5721db9f279b82e6f2b620cdb9c5d48ba720fafd087", func := "loop.example/objectlinker/laws.FnExactOpenSeal", spec := "fnExactOpenSeal", apart := false }
def FnExactOpenSealSaid : Prop := fnExactOpenSealRow.holds Try.pinned (OpenSpec.ofChange fnExactOpenSealSpec)

/-- ITS FALSE NEIGHBOUR: 'it returns false'. Refute it at one input. -/
def fnExactOpenSealWrong : ChangeSpec := { name := "fnExactOpenSeal", fn := fun _ => fun
  | [d] => { results := [.lit (.bool false)], args := [d] }
  | _ => none }
def FnExactOpenSealWrongFalsely : Prop := fnExactOpenSealRow.holds Try.pinned (OpenSpec.ofChange fnExactOpenSealWrong)

/-- 'laws.FnExactApplyPatches': WHATEVER THE INPUT: true; the input reads as it did. -/
def fnExactApplyPatchesSpec : ChangeSpec := { name := "fnExactApplyPatches", fn := fun _ => fun
  | [d1, d2] => { results := [.lit (.bool true)], args := [d1, d2] }
  | _ => none }
def fnExactApplyPatchesRow : OpenClaim := { program := "ytckfffhionhnkaa", sum := "3444927a1334a8d4f45fd5721db9f279b82e6f2b620cdb9c5d48ba720fafd087", func := "loop.example/objectlinker/laws.FnExactApplyPatches", spec := "fnExactApplyPatches", apart := false }
def FnExactApplyPatchesSaid : Prop := fnExactApplyPatchesRow.holds Try.pinned (OpenSpec.ofChange fnExactApplyPatchesSpec)

/-- ITS FALSE NEIGHBOUR: 'it returns false'. Refute it at one input. -/
def fnExactApplyPatchesWrong : ChangeSpec := { name := "fnExactApplyPatches", fn := fun _ => fun
  | [d1, d2] => { results := [.lit (.bool false)], args := [d1, d2] }
  | _ => none }
def FnExactApplyPatchesWrongFalsely : Prop := fnExactApplyPatchesRow.holds Try.pinned (OpenSpec.ofChange fnExactApplyPatchesWrong)

/-- 'laws.FnExactStepMachine': WHATEVER THE INPUT: true; the input reads as it did. -/
def fnExactStepMachineSpec : ChangeSpec := { name := "fnExactStepMachine", fn := fun _ => fun
  | [d1, d2] => { results := [.lit (.bool true)], args := [d1, d2] }
  | _ => none }
def fnExactStepMachineRow : OpenClaim := { program := "ytckfffhionhnkaa", sum := "3444927a1334a8d4f45fd5721db9f279b82e6f2b620cdb9c5d48ba720fafd087", func := "loop.example/objectlinker/laws.FnExactStepMachine", spec := "fnExactStepMachine", unfollowed := true, recurses := true, apart := false }
def FnExactStepMachineSaid : Prop := fnExactStepMachineRow.holds Try.pinned (OpenSpec.ofChange fnExactStepMachineSpec)

/-- ITS FALSE NEIGHBOUR: 'it returns false'. Refute it at one input. -/
def fnExactStepMachineWrong : ChangeSpec := { name := "fnExactStepMachine", fn := fun _ => fun
  | [d1, d2] => { results := [.lit (.bool false)], args := [d1, d2] }
  | _ => none }
def FnExactStepMachineWrongFalsely : Prop := fnExactStepMachineRow.holds Try.pinned (OpenSpec.ofChange fnExactStepMachineWrong)

/-- 'laws.FnSumOf': WHATEVER THE INPUT: true; the input reads as it did. -/
def fnSumOfSpec : ChangeSpec := { name := "fnSumOf", fn := fun _ => fun
  | [d] => { results := [.lit (.bool true)], args := [d] }
  | _ => none }
def fnSumOfRow : OpenClaim := { program := "ytckfffhionhnkaa", sum := "3444927a1334a8d4f45fd5721db9f279b82e6f2b620cdb9c5d48ba720fafd087", func := "loop.example/objectlinker/laws.FnSumOf", spec := "fnSumOf", apart := false }
def FnSumOfSaid : Prop := fnSumOfRow.holds Try.pinned (OpenSpec.ofChange fnSumOfSpec)

/-- ITS FALSE NEIGHBOUR: 'it returns false'. Refute it at one input. -/
def fnSumOfWrong : ChangeSpec := { name := "fnSumOf", fn := fun _ => fun
  | [d] => { results := [.lit (.bool false)], args := [d] }
  | _ => none }
def FnSumOfWrongFalsely : Prop := fnSumOfRow.holds Try.pinned (OpenSpec.ofChange fnSumOfWrong)

/-- 'laws.FnCodeValid': WHATEVER THE INPUT: true; the input reads as it did. -/
def fnCodeValidSpec : ChangeSpec := { name := "fnCodeValid", fn := fun _ => fun
  | [d] => { results := [.lit (.bool true)], args := [d] }
  | _ => none }
def fnCodeValidRow : OpenClaim := { program := "ytckfffhionhnkaa", sum := "3444927a1334a8d4f45fd5721db9f279b82e6f2b620cdb9c5d48ba720fafd087", func := "loop.example/objectlinker/laws.FnCodeValid", spec := "fnCodeValid", apart := false }
def FnCodeValidSaid : Prop := fnCodeValidRow.holds Try.pinned (OpenSpec.ofChange fnCodeValidSpec)

/-- ITS FALSE NEIGHBOUR: 'it returns false'. Refute it at one input. -/
def fnCodeValidWrong : ChangeSpec := { name := "fnCodeValid", fn := fun _ => fun
  | [d] => { results := [.lit (.bool false)], args := [d] }
  | _ => none }
def FnCodeValidWrongFalsely : Prop := fnCodeValidRow.holds Try.pinned (OpenSpec.ofChange fnCodeValidWrong)

/-- 'laws.FnUnZigZag': WHATEVER THE INPUT: true; the input reads as it did. -/
def fnUnZigZagSpec : ChangeSpec := { name := "fnUnZigZag", fn := fun _ => fun
  | [d] => { results := [.lit (.bool true)], args := [d] }
  | _ => none }
def fnUnZigZagRow : OpenClaim := { program := "ytckfffhionhnkaa", sum := "3444927a1334a8d4f45fd5721db9f279b82e6f2b620cdb9c5d48ba720fafd087", func := "loop.example/objectlinker/laws.FnUnZigZag", spec := "fnUnZigZag", apart := false }
def FnUnZigZagSaid : Prop := fnUnZigZagRow.holds Try.pinned (OpenSpec.ofChange fnUnZigZagSpec)

/-- ITS FALSE NEIGHBOUR: 'it returns false'. Refute it at one input. -/
def fnUnZigZagWrong : ChangeSpec := { name := "fnUnZigZag", fn := fun _ => fun
  | [d] => { results := [.lit (.bool false)], args := [d] }
  | _ => none }
def FnUnZigZagWrongFalsely : Prop := fnUnZigZagRow.holds Try.pinned (OpenSpec.ofChange fnUnZigZagWrong)

/-- 'laws.FnRowsValid': WHATEVER THE INPUT: true; the input reads as it did. -/
def fnRowsValidSpec : ChangeSpec := { name := "fnRowsValid", fn := fun _ => fun
  | [d] => { results := [.lit (.bool true)], args := [d] }
  | _ => none }
def fnRowsValidRow : OpenClaim := { program := "ytckfffhionhnkaa", sum := "3444927a1334a8d4f45fd5721db9f279b82e6f2b620cdb9c5d48ba720fafd087", func := "loop.example/objectlinker/laws.FnRowsValid", spec := "fnRowsValid", apart := false }
def FnRowsValidSaid : Prop := fnRowsValidRow.holds Try.pinned (OpenSpec.ofChange fnRowsValidSpec)

/-- ITS FALSE NEIGHBOUR: 'it returns false'. Refute it at one input. -/
def fnRowsValidWrong : ChangeSpec := { name := "fnRowsValid", fn := fun _ => fun
  | [d] => { results := [.lit (.bool false)], args := [d] }
  | _ => none }
def FnRowsValidWrongFalsely : Prop := fnRowsValidRow.holds Try.pinned (OpenSpec.ofChange fnRowsValidWrong)

/-- 'laws.FnZigZag': WHATEVER THE INPUT: true; the input reads as it did. -/
def fnZigZagSpec : ChangeSpec := { name := "fnZigZag", fn := fun _ => fun
  | [d] => { results := [.lit (.bool true)], args := [d] }
  | _ => none }
def fnZigZagRow : OpenClaim := { program := "ytckfffhionhnkaa", sum := "3444927a1334a8d4f45fd5721db9f279b82e6f2b620cdb9c5d48ba720fafd087", func := "loop.example/objectlinker/laws.FnZigZag", spec := "fnZigZag", apart := false }
def FnZigZagSaid : Prop := fnZigZagRow.holds Try.pinned (OpenSpec.ofChange fnZigZagSpec)

/-- ITS FALSE NEIGHBOUR: 'it returns false'. Refute it at one input. -/
def fnZigZagWrong : ChangeSpec := { name := "fnZigZag", fn := fun _ => fun
  | [d] => { results := [.lit (.bool false)], args := [d] }
  | _ => none }
def FnZigZagWrongFalsely : Prop := fnZigZagRow.holds Try.pinned (OpenSpec.ofChange fnZigZagWrong)

/-- 'laws.FnFramesValid': WHATEVER THE INPUT: true; the input reads as it did. -/
def fnFramesValidSpec : ChangeSpec := { name := "fnFramesValid", fn := fun _ => fun
  | [d] => { results := [.lit (.bool true)], args := [d] }
  | _ => none }
def fnFramesValidRow : OpenClaim := { program := "ytckfffhionhnkaa", sum := "3444927a1334a8d4f45fd5721db9f279b82e6f2b620cdb9c5d48ba720fafd087", func := "loop.example/objectlinker/laws.FnFramesValid", spec := "fnFramesValid", apart := false }
def FnFramesValidSaid : Prop := fnFramesValidRow.holds Try.pinned (OpenSpec.ofChange fnFramesValidSpec)

/-- ITS FALSE NEIGHBOUR: 'it returns false'. Refute it at one input. -/
def fnFramesValidWrong : ChangeSpec := { name := "fnFramesValid", fn := fun _ => fun
  | [d] => { results := [.lit (.bool false)], args := [d] }
  | _ => none }
def FnFramesValidWrongFalsely : Prop := fnFramesValidRow.holds Try.pinned (OpenSpec.ofChange fnFramesValidWrong)

/-- 'laws.FnVarSize': WHATEVER THE INPUT: true; the input reads as it did. -/
def fnVarSizeSpec : ChangeSpec := { name := "fnVarSize", fn := fun _ => fun
  | [d] => { results := [.lit (.bool true)], args := [d] }
  | _ => none }
def fnVarSizeRow : OpenClaim := { program := "ytckfffhionhnkaa", sum := "3444927a1334a8d4f45fd5721db9f279b82e6f2b620cdb9c5d48ba720fafd087", func := "loop.example/objectlinker/laws.FnVarSize", spec := "fnVarSize", apart := false }
def FnVarSizeSaid : Prop := fnVarSizeRow.holds Try.pinned (OpenSpec.ofChange fnVarSizeSpec)

/-- ITS FALSE NEIGHBOUR: 'it returns false'. Refute it at one input. -/
def fnVarSizeWrong : ChangeSpec := { name := "fnVarSize", fn := fun _ => fun
  | [d] => { results := [.lit (.bool false)], args := [d] }
  | _ => none }
def FnVarSizeWrongFalsely : Prop := fnVarSizeRow.holds Try.pinned (OpenSpec.ofChange fnVarSizeWrong)

/-- 'laws.FnLandmarkBefore': WHATEVER THE INPUT: true; the input reads as it did. -/
def fnLandmarkBeforeSpec : ChangeSpec := { name := "fnLandmarkBefore", fn := fun _ => fun
  | [d] => { results := [.lit (.bool true)], args := [d] }
  | _ => none }
def fnLandmarkBeforeRow : OpenClaim := { program := "ytckfffhionhnkaa", sum := "3444927a1334a8d4f45fd5721db9f279b82e6f2b620cdb9c5d48ba720fafd087", func := "loop.example/objectlinker/laws.FnLandmarkBefore", spec := "fnLandmarkBefore", apart := false }
def FnLandmarkBeforeSaid : Prop := fnLandmarkBeforeRow.holds Try.pinned (OpenSpec.ofChange fnLandmarkBeforeSpec)

/-- ITS FALSE NEIGHBOUR: 'it returns false'. Refute it at one input. -/
def fnLandmarkBeforeWrong : ChangeSpec := { name := "fnLandmarkBefore", fn := fun _ => fun
  | [d] => { results := [.lit (.bool false)], args := [d] }
  | _ => none }
def FnLandmarkBeforeWrongFalsely : Prop := fnLandmarkBeforeRow.holds Try.pinned (OpenSpec.ofChange fnLandmarkBeforeWrong)

/-- 'laws.FnMachineValid': WHATEVER THE INPUT: true; the input reads as it did. -/
def fnMachineValidSpec : ChangeSpec := { name := "fnMachineValid", fn := fun _ => fun
  | [d] => { results := [.lit (.bool true)], args := [d] }
  | _ => none }
def fnMachineValidRow : OpenClaim := { program := "ytckfffhionhnkaa", sum := "3444927a1334a8d4f45fd5721db9f279b82e6f2b620cdb9c5d48ba720fafd087", func := "loop.example/objectlinker/laws.FnMachineValid", spec := "fnMachineValid", unfollowed := true, recurses := true, apart := false }
def FnMachineValidSaid : Prop := fnMachineValidRow.holds Try.pinned (OpenSpec.ofChange fnMachineValidSpec)

/-- ITS FALSE NEIGHBOUR: 'it returns false'. Refute it at one input. -/
def fnMachineValidWrong : ChangeSpec := { name := "fnMachineValid", fn := fun _ => fun
  | [d] => { results := [.lit (.bool false)], args := [d] }
  | _ => none }
def FnMachineValidWrongFalsely : Prop := fnMachineValidRow.holds Try.pinned (OpenSpec.ofChange fnMachineValidWrong)

/-- 'laws.FnFrameOf': WHATEVER THE INPUT: true; the input reads as it did. -/
def fnFrameOfSpec : ChangeSpec := { name := "fnFrameOf", fn := fun _ => fun
  | [d] => { results := [.lit (.bool true)], args := [d] }
  | _ => none }
def fnFrameOfRow : OpenClaim := { program := "ytckfffhionhnkaa", sum := "3444927a1334a8d4f45fd5721db9f279b82e6f2b620cdb9c5d48ba720fafd087", func := "loop.example/objectlinker/laws.FnFrameOf", spec := "fnFrameOf", apart := false }
def FnFrameOfSaid : Prop := fnFrameOfRow.holds Try.pinned (OpenSpec.ofChange fnFrameOfSpec)

/-- ITS FALSE NEIGHBOUR: 'it returns false'. Refute it at one input. -/
def fnFrameOfWrong : ChangeSpec := { name := "fnFrameOf", fn := fun _ => fun
  | [d] => { results := [.lit (.bool false)], args := [d] }
  | _ => none }
def FnFrameOfWrongFalsely : Prop := fnFrameOfRow.holds Try.pinned (OpenSpec.ofChange fnFrameOfWrong)

/-- 'laws.FnLineOf': WHATEVER THE INPUT: true; the input reads as it did. -/
def fnLineOfSpec : ChangeSpec := { name := "fnLineOf", fn := fun _ => fun
  | [d] => { results := [.lit (.bool true)], args := [d] }
  | _ => none }
def fnLineOfRow : OpenClaim := { program := "ytckfffhionhnkaa", sum := "3444927a1334a8d4f45fd5721db9f279b82e6f2b620cdb9c5d48ba720fafd087", func := "loop.example/objectlinker/laws.FnLineOf", spec := "fnLineOf", apart := false }
def FnLineOfSaid : Prop := fnLineOfRow.holds Try.pinned (OpenSpec.ofChange fnLineOfSpec)

/-- ITS FALSE NEIGHBOUR: 'it returns false'. Refute it at one input. -/
def fnLineOfWrong : ChangeSpec := { name := "fnLineOf", fn := fun _ => fun
  | [d] => { results := [.lit (.bool false)], args := [d] }
  | _ => none }
def FnLineOfWrongFalsely : Prop := fnLineOfRow.holds Try.pinned (OpenSpec.ofChange fnLineOfWrong)

/-- 'laws.FnPutVar': WHATEVER THE INPUT: true; the input reads as it did. -/
def fnPutVarSpec : ChangeSpec := { name := "fnPutVar", fn := fun _ => fun
  | [d] => { results := [.lit (.bool true)], args := [d] }
  | _ => none }
def fnPutVarRow : OpenClaim := { program := "ytckfffhionhnkaa", sum := "3444927a1334a8d4f45fd5721db9f279b82e6f2b620cdb9c5d48ba720fafd087", func := "loop.example/objectlinker/laws.FnPutVar", spec := "fnPutVar", apart := false }
def FnPutVarSaid : Prop := fnPutVarRow.holds Try.pinned (OpenSpec.ofChange fnPutVarSpec)

/-- ITS FALSE NEIGHBOUR: 'it returns false'. Refute it at one input. -/
def fnPutVarWrong : ChangeSpec := { name := "fnPutVar", fn := fun _ => fun
  | [d] => { results := [.lit (.bool false)], args := [d] }
  | _ => none }
def FnPutVarWrongFalsely : Prop := fnPutVarRow.holds Try.pinned (OpenSpec.ofChange fnPutVarWrong)

/-- 'laws.FnGetVar': WHATEVER THE INPUT: true; the input reads as it did. -/
def fnGetVarSpec : ChangeSpec := { name := "fnGetVar", fn := fun _ => fun
  | [d] => { results := [.lit (.bool true)], args := [d] }
  | _ => none }
def fnGetVarRow : OpenClaim := { program := "ytckfffhionhnkaa", sum := "3444927a1334a8d4f45fd5721db9f279b82e6f2b620cdb9c5d48ba720fafd087", func := "loop.example/objectlinker/laws.FnGetVar", spec := "fnGetVar", apart := false }
def FnGetVarSaid : Prop := fnGetVarRow.holds Try.pinned (OpenSpec.ofChange fnGetVarSpec)

/-- ITS FALSE NEIGHBOUR: 'it returns false'. Refute it at one input. -/
def fnGetVarWrong : ChangeSpec := { name := "fnGetVar", fn := fun _ => fun
  | [d] => { results := [.lit (.bool false)], args := [d] }
  | _ => none }
def FnGetVarWrongFalsely : Prop := fnGetVarRow.holds Try.pinned (OpenSpec.ofChange fnGetVarWrong)

/-- 'laws.FnUnwindStack': WHATEVER THE INPUT: true; the input reads as it did. -/
def fnUnwindStackSpec : ChangeSpec := { name := "fnUnwindStack", fn := fun _ => fun
  | [d] => { results := [.lit (.bool true)], args := [d] }
  | _ => none }
def fnUnwindStackRow : OpenClaim := { program := "ytckfffhionhnkaa", sum := "3444927a1334a8d4f45fd5721db9f279b82e6f2b620cdb9c5d48ba720fafd087", func := "loop.example/objectlinker/laws.FnUnwindStack", spec := "fnUnwindStack", apart := false }
def FnUnwindStackSaid : Prop := fnUnwindStackRow.holds Try.pinned (OpenSpec.ofChange fnUnwindStackSpec)

/-- ITS FALSE NEIGHBOUR: 'it returns false'. Refute it at one input. -/
def fnUnwindStackWrong : ChangeSpec := { name := "fnUnwindStack", fn := fun _ => fun
  | [d] => { results := [.lit (.bool false)], args := [d] }
  | _ => none }
def FnUnwindStackWrongFalsely : Prop := fnUnwindStackRow.holds Try.pinned (OpenSpec.ofChange fnUnwindStackWrong)

/- THE SECOND FORM. 'bulk': how many values and letters a reading holds, each counted each time it is reached (what is shared counts as often as it is met; a slice's spare places count too). A statement '..UptoSaid' is the law's where the arguments, and the package variables that the reading takes, are together of bulk at most 1048576: NARROWER than '..Said'. Prove '..Said' where nothing that the law and all that it calls make is longer than what came in: it says more and counts as full. Else prove '..UptoSaid'. A law counts once. -/
mutual
def uptoBulk {H : Type} : DataW H → Nat
  | .lit (.string bytes) => bytes.length + 1
  | .lit _ => 1
  | .nil => 1
  | .ptr d => uptoBulk d + 1
  | .slice elems spare => uptoBulkAll elems + uptoBulkAll spare + 1
  | .agg parts => uptoBulkAll parts + 1
  | .iface _ d => uptoBulk d + 1
  | .map entries => uptoBulkEntries entries + 1
  | .held _ => 1
def uptoBulkAll {H : Type} : List (DataW H) → Nat
  | [] => 0
  | d :: r => uptoBulk d + uptoBulkAll r
def uptoBulkEntries {H : Type} : List (Lit × DataW H) → Nat
  | [] => 0
  | x :: r => uptoBulkEntry x + uptoBulkEntries r
def uptoBulkEntry {H : Type} : Lit × DataW H → Nat
  | (.string bytes, d) => bytes.length + uptoBulk d + 1
  | (_, d) => uptoBulk d + 1
 end
def uptoSmall : (H : Type) → List (DataW H) → Bool := fun _ ds => decide (uptoBulkAll ds ≤ 1048576)
def OpenSpec.upto (s : _root_.Go.ChangeSpec) : _root_.Go.OpenSpec := { _root_.Go.OpenSpec.ofChange s with cond := some uptoSmall }

/-- 'laws.FnExactUnwindStack', WHERE WHAT IT READS IS OF BULK AT MOST 1048576: true; the input reads as it did. -/
def fnExactUnwindStackUptoRow : OpenClaim := { program := "ytckfffhionhnkaa", sum := "3444927a1334a8d4f45fd5721db9f279b82e6f2b620cdb9c5d48ba720fafd087", func := "loop.example/objectlinker/laws.FnExactUnwindStack", spec := "fnExactUnwindStack", apart := false, narrowed := true }
def FnExactUnwindStackUptoSaid : Prop := fnExactUnwindStackUptoRow.holds Try.pinned (OpenSpec.upto fnExactUnwindStackSpec)

/-- 'laws.FnExactPutRows', WHERE WHAT IT READS IS OF BULK AT MOST 1048576: true; the input reads as it did. -/
def fnExactPutRowsUptoRow : OpenClaim := { program := "ytckfffhionhnkaa", sum := "3444927a1334a8d4f45fd5721db9f279b82e6f2b620cdb9c5d48ba720fafd087", func := "loop.example/objectlinker/laws.FnExactPutRows", spec := "fnExactPutRows", apart := false, narrowed := true }
def FnExactPutRowsUptoSaid : Prop := fnExactPutRowsUptoRow.holds Try.pinned (OpenSpec.upto fnExactPutRowsSpec)

/-- 'laws.FnExactGetRows', WHERE WHAT IT READS IS OF BULK AT MOST 1048576: true; the input reads as it did. -/
def fnExactGetRowsUptoRow : OpenClaim := { program := "ytckfffhionhnkaa", sum := "3444927a1334a8d4f45fd5721db9f279b82e6f2b620cdb9c5d48ba720fafd087", func := "loop.example/objectlinker/laws.FnExactGetRows", spec := "fnExactGetRows", apart := false, narrowed := true }
def FnExactGetRowsUptoSaid : Prop := fnExactGetRowsUptoRow.holds Try.pinned (OpenSpec.upto fnExactGetRowsSpec)

/-- 'laws.FnExactSealBytes', WHERE WHAT IT READS IS OF BULK AT MOST 1048576: true; the input reads as it did. -/
def fnExactSealBytesUptoRow : OpenClaim := { program := "ytckfffhionhnkaa", sum := "3444927a1334a8d4f45fd5721db9f279b82e6f2b620cdb9c5d48ba720fafd087", func := "loop.example/objectlinker/laws.FnExactSealBytes", spec := "fnExactSealBytes", apart := false, narrowed := true }
def FnExactSealBytesUptoSaid : Prop := fnExactSealBytesUptoRow.holds Try.pinned (OpenSpec.upto fnExactSealBytesSpec)

/-- 'laws.FnExactOpenSeal', WHERE WHAT IT READS IS OF BULK AT MOST 1048576: true; the input reads as it did. -/
def fnExactOpenSealUptoRow : OpenClaim := { program := "ytckfffhionhnkaa", sum := "3444927a1334a8d4f45fd5721db9f279b82e6f2b620cdb9c5d48ba720fafd087", func := "loop.example/objectlinker/laws.FnExactOpenSeal", spec := "fnExactOpenSeal", apart := false, narrowed := true }
def FnExactOpenSealUptoSaid : Prop := fnExactOpenSealUptoRow.holds Try.pinned (OpenSpec.upto fnExactOpenSealSpec)

/-- 'laws.FnExactApplyPatches', WHERE WHAT IT READS IS OF BULK AT MOST 1048576: true; the input reads as it did. -/
def fnExactApplyPatchesUptoRow : OpenClaim := { program := "ytckfffhionhnkaa", sum := "3444927a1334a8d4f45fd5721db9f279b82e6f2b620cdb9c5d48ba720fafd087", func := "loop.example/objectlinker/laws.FnExactApplyPatches", spec := "fnExactApplyPatches", apart := false, narrowed := true }
def FnExactApplyPatchesUptoSaid : Prop := fnExactApplyPatchesUptoRow.holds Try.pinned (OpenSpec.upto fnExactApplyPatchesSpec)

/-- 'laws.FnExactStepMachine', WHERE WHAT IT READS IS OF BULK AT MOST 1048576: true; the input reads as it did. -/
def fnExactStepMachineUptoRow : OpenClaim := { program := "ytckfffhionhnkaa", sum := "3444927a1334a8d4f45fd5721db9f279b82e6f2b620cdb9c5d48ba720fafd087", func := "loop.example/objectlinker/laws.FnExactStepMachine", spec := "fnExactStepMachine", unfollowed := true, recurses := true, apart := false, narrowed := true }
def FnExactStepMachineUptoSaid : Prop := fnExactStepMachineUptoRow.holds Try.pinned (OpenSpec.upto fnExactStepMachineSpec)

/-- 'laws.FnSumOf', WHERE WHAT IT READS IS OF BULK AT MOST 1048576: true; the input reads as it did. -/
def fnSumOfUptoRow : OpenClaim := { program := "ytckfffhionhnkaa", sum := "3444927a1334a8d4f45fd5721db9f279b82e6f2b620cdb9c5d48ba720fafd087", func := "loop.example/objectlinker/laws.FnSumOf", spec := "fnSumOf", apart := false, narrowed := true }
def FnSumOfUptoSaid : Prop := fnSumOfUptoRow.holds Try.pinned (OpenSpec.upto fnSumOfSpec)

/-- 'laws.FnCodeValid', WHERE WHAT IT READS IS OF BULK AT MOST 1048576: true; the input reads as it did. -/
def fnCodeValidUptoRow : OpenClaim := { program := "ytckfffhionhnkaa", sum := "3444927a1334a8d4f45fd5721db9f279b82e6f2b620cdb9c5d48ba720fafd087", func := "loop.example/objectlinker/laws.FnCodeValid", spec := "fnCodeValid", apart := false, narrowed := true }
def FnCodeValidUptoSaid : Prop := fnCodeValidUptoRow.holds Try.pinned (OpenSpec.upto fnCodeValidSpec)

/-- 'laws.FnUnZigZag', WHERE WHAT IT READS IS OF BULK AT MOST 1048576: true; the input reads as it did. -/
def fnUnZigZagUptoRow : OpenClaim := { program := "ytckfffhionhnkaa", sum := "3444927a1334a8d4f45fd5721db9f279b82e6f2b620cdb9c5d48ba720fafd087", func := "loop.example/objectlinker/laws.FnUnZigZag", spec := "fnUnZigZag", apart := false, narrowed := true }
def FnUnZigZagUptoSaid : Prop := fnUnZigZagUptoRow.holds Try.pinned (OpenSpec.upto fnUnZigZagSpec)

/-- 'laws.FnRowsValid', WHERE WHAT IT READS IS OF BULK AT MOST 1048576: true; the input reads as it did. -/
def fnRowsValidUptoRow : OpenClaim := { program := "ytckfffhionhnkaa", sum := "3444927a1334a8d4f45fd5721db9f279b82e6f2b620cdb9c5d48ba720fafd087", func := "loop.example/objectlinker/laws.FnRowsValid", spec := "fnRowsValid", apart := false, narrowed := true }
def FnRowsValidUptoSaid : Prop := fnRowsValidUptoRow.holds Try.pinned (OpenSpec.upto fnRowsValidSpec)

/-- 'laws.FnZigZag', WHERE WHAT IT READS IS OF BULK AT MOST 1048576: true; the input reads as it did. -/
def fnZigZagUptoRow : OpenClaim := { program := "ytckfffhionhnkaa", sum := "3444927a1334a8d4f45fd5721db9f279b82e6f2b620cdb9c5d48ba720fafd087", func := "loop.example/objectlinker/laws.FnZigZag", spec := "fnZigZag", apart := false, narrowed := true }
def FnZigZagUptoSaid : Prop := fnZigZagUptoRow.holds Try.pinned (OpenSpec.upto fnZigZagSpec)

/-- 'laws.FnFramesValid', WHERE WHAT IT READS IS OF BULK AT MOST 1048576: true; the input reads as it did. -/
def fnFramesValidUptoRow : OpenClaim := { program := "ytckfffhionhnkaa", sum := "3444927a1334a8d4f45fd5721db9f279b82e6f2b620cdb9c5d48ba720fafd087", func := "loop.example/objectlinker/laws.FnFramesValid", spec := "fnFramesValid", apart := false, narrowed := true }
def FnFramesValidUptoSaid : Prop := fnFramesValidUptoRow.holds Try.pinned (OpenSpec.upto fnFramesValidSpec)

/-- 'laws.FnVarSize', WHERE WHAT IT READS IS OF BULK AT MOST 1048576: true; the input reads as it did. -/
def fnVarSizeUptoRow : OpenClaim := { program := "ytckfffhionhnkaa", sum := "3444927a1334a8d4f45fd5721db9f279b82e6f2b620cdb9c5d48ba720fafd087", func := "loop.example/objectlinker/laws.FnVarSize", spec := "fnVarSize", apart := false, narrowed := true }
def FnVarSizeUptoSaid : Prop := fnVarSizeUptoRow.holds Try.pinned (OpenSpec.upto fnVarSizeSpec)

/-- 'laws.FnLandmarkBefore', WHERE WHAT IT READS IS OF BULK AT MOST 1048576: true; the input reads as it did. -/
def fnLandmarkBeforeUptoRow : OpenClaim := { program := "ytckfffhionhnkaa", sum := "3444927a1334a8d4f45fd5721db9f279b82e6f2b620cdb9c5d48ba720fafd087", func := "loop.example/objectlinker/laws.FnLandmarkBefore", spec := "fnLandmarkBefore", apart := false, narrowed := true }
def FnLandmarkBeforeUptoSaid : Prop := fnLandmarkBeforeUptoRow.holds Try.pinned (OpenSpec.upto fnLandmarkBeforeSpec)

/-- 'laws.FnMachineValid', WHERE WHAT IT READS IS OF BULK AT MOST 1048576: true; the input reads as it did. -/
def fnMachineValidUptoRow : OpenClaim := { program := "ytckfffhionhnkaa", sum := "3444927a1334a8d4f45fd5721db9f279b82e6f2b620cdb9c5d48ba720fafd087", func := "loop.example/objectlinker/laws.FnMachineValid", spec := "fnMachineValid", unfollowed := true, recurses := true, apart := false, narrowed := true }
def FnMachineValidUptoSaid : Prop := fnMachineValidUptoRow.holds Try.pinned (OpenSpec.upto fnMachineValidSpec)

/-- 'laws.FnFrameOf', WHERE WHAT IT READS IS OF BULK AT MOST 1048576: true; the input reads as it did. -/
def fnFrameOfUptoRow : OpenClaim := { program := "ytckfffhionhnkaa", sum := "3444927a1334a8d4f45fd5721db9f279b82e6f2b620cdb9c5d48ba720fafd087", func := "loop.example/objectlinker/laws.FnFrameOf", spec := "fnFrameOf", apart := false, narrowed := true }
def FnFrameOfUptoSaid : Prop := fnFrameOfUptoRow.holds Try.pinned (OpenSpec.upto fnFrameOfSpec)

/-- 'laws.FnLineOf', WHERE WHAT IT READS IS OF BULK AT MOST 1048576: true; the input reads as it did. -/
def fnLineOfUptoRow : OpenClaim := { program := "ytckfffhionhnkaa", sum := "3444927a1334a8d4f45fd5721db9f279b82e6f2b620cdb9c5d48ba720fafd087", func := "loop.example/objectlinker/laws.FnLineOf", spec := "fnLineOf", apart := false, narrowed := true }
def FnLineOfUptoSaid : Prop := fnLineOfUptoRow.holds Try.pinned (OpenSpec.upto fnLineOfSpec)

/-- 'laws.FnPutVar', WHERE WHAT IT READS IS OF BULK AT MOST 1048576: true; the input reads as it did. -/
def fnPutVarUptoRow : OpenClaim := { program := "ytckfffhionhnkaa", sum := "3444927a1334a8d4f45fd5721db9f279b82e6f2b620cdb9c5d48ba720fafd087", func := "loop.example/objectlinker/laws.FnPutVar", spec := "fnPutVar", apart := false, narrowed := true }
def FnPutVarUptoSaid : Prop := fnPutVarUptoRow.holds Try.pinned (OpenSpec.upto fnPutVarSpec)

/-- 'laws.FnGetVar', WHERE WHAT IT READS IS OF BULK AT MOST 1048576: true; the input reads as it did. -/
def fnGetVarUptoRow : OpenClaim := { program := "ytckfffhionhnkaa", sum := "3444927a1334a8d4f45fd5721db9f279b82e6f2b620cdb9c5d48ba720fafd087", func := "loop.example/objectlinker/laws.FnGetVar", spec := "fnGetVar", apart := false, narrowed := true }
def FnGetVarUptoSaid : Prop := fnGetVarUptoRow.holds Try.pinned (OpenSpec.upto fnGetVarSpec)

/-- 'laws.FnUnwindStack', WHERE WHAT IT READS IS OF BULK AT MOST 1048576: true; the input reads as it did. -/
def fnUnwindStackUptoRow : OpenClaim := { program := "ytckfffhionhnkaa", sum := "3444927a1334a8d4f45fd5721db9f279b82e6f2b620cdb9c5d48ba720fafd087", func := "loop.example/objectlinker/laws.FnUnwindStack", spec := "fnUnwindStack", apart := false, narrowed := true }
def FnUnwindStackUptoSaid : Prop := fnUnwindStackUptoRow.holds Try.pinned (OpenSpec.upto fnUnwindStackSpec)

end Rows
end Go.Proofs.Ytckfffhionhnkaa
