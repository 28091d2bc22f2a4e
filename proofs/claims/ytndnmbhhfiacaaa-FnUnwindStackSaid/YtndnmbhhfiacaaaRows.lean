/-
  No cell of these rows narrows 'for every input' (looked for: loops, veiled, ifaces, maps, wideKeys, modest, calm, conditions, laid).
  DERIVED. THE GIVEN ROWS OF THIS SEAT. 22 by the template 'for every input the law returns true; each argument reads behind the call as it read before'; 0 by the template 'total and deterministic' (their statements: YtndnmbhhfiacaaaTotals.lean).
  GIVEN WITH THE SEED: the statements are not yours to turn. If you find one false, say at which input.
  Laid BY PROGRAM, IN A SANDBOX (cutbox-rows.mjs): the forced cells as the released guide's own fill.sh prints them over the translation 27801eafc42b166d… (all of the seat's roots in one cut). By AI agents, Wed Nov 11 2026. No macro, syntax, notation, axiom, sorry.
-/
import Derived.Test.YtndnmbhhfiacaaaChecked
import GoSem.Claim
import GoSem.ClaimJoined
import GoSem.ClaimMapViews
import Derived.JoinedTies
import Derived.KernelRfl
namespace Go.Proofs.Ytndnmbhhfiacaaa
/- THE CELL 'sum', in the pinned program and in every row, IS THE sha256 OF THE DUMP (.gsa) THAT YtndnmbhhfiacaaaProg.lean LOADS. Nothing in Lean hashes anything: it is a label: what it is worth is what the hold of that sum in a sandbox is worth. -/
noncomputable def Try.pinned : Pinned := { name := "ytndnmbhhfiacaaa", sum := "27801eafc42b166d4afd9c1e38a678518b0fad6b85c7cb25163184afce2ff661", checked := Try.checked }
namespace Rows
def none {H : Type} : Left H := { results := [], args := [] }

/-- 'laws.FnSumOf': WHATEVER THE INPUT: true; the input reads as it did. -/
def fnSumOfSpec : ChangeSpec := { name := "fnSumOf", fn := fun _ => fun
  | [d] => { results := [.lit (.bool true)], args := [d] }
  | _ => none }
def fnSumOfRow : OpenClaim := { program := "ytndnmbhhfiacaaa", sum := "27801eafc42b166d4afd9c1e38a678518b0fad6b85c7cb25163184afce2ff661", func := "loop.example/objectlinker/laws.FnSumOf", spec := "fnSumOf", apart := false }
def FnSumOfSaid : Prop := fnSumOfRow.holds Try.pinned (OpenSpec.ofChange fnSumOfSpec)

/-- ITS FALSE NEIGHBOUR: 'it returns false'. Refute it at one input. -/
def fnSumOfWrong : ChangeSpec := { name := "fnSumOf", fn := fun _ => fun
  | [d] => { results := [.lit (.bool false)], args := [d] }
  | _ => none }
def FnSumOfWrongFalsely : Prop := fnSumOfRow.holds Try.pinned (OpenSpec.ofChange fnSumOfWrong)

/-- 'laws.FnRowsValid': WHATEVER THE INPUT: true; the input reads as it did. -/
def fnRowsValidSpec : ChangeSpec := { name := "fnRowsValid", fn := fun _ => fun
  | [d] => { results := [.lit (.bool true)], args := [d] }
  | _ => none }
def fnRowsValidRow : OpenClaim := { program := "ytndnmbhhfiacaaa", sum := "27801eafc42b166d4afd9c1e38a678518b0fad6b85c7cb25163184afce2ff661", func := "loop.example/objectlinker/laws.FnRowsValid", spec := "fnRowsValid", apart := false }
def FnRowsValidSaid : Prop := fnRowsValidRow.holds Try.pinned (OpenSpec.ofChange fnRowsValidSpec)

/-- ITS FALSE NEIGHBOUR: 'it returns false'. Refute it at one input. -/
def fnRowsValidWrong : ChangeSpec := { name := "fnRowsValid", fn := fun _ => fun
  | [d] => { results := [.lit (.bool false)], args := [d] }
  | _ => none }
def FnRowsValidWrongFalsely : Prop := fnRowsValidRow.holds Try.pinned (OpenSpec.ofChange fnRowsValidWrong)

/-- 'laws.FnFramesValid': WHATEVER THE INPUT: true; the input reads as it did. -/
def fnFramesValidSpec : ChangeSpec := { name := "fnFramesValid", fn := fun _ => fun
  | [d] => { results := [.lit (.bool true)], args := [d] }
  | _ => none }
def fnFramesValidRow : OpenClaim := { program := "ytndnmbhhfiacaaa", sum := "27801eafc42b166d4afd9c1e38a678518b0fad6b85c7cb25163184afce2ff661", func := "loop.example/objectlinker/laws.FnFramesValid", spec := "fnFramesValid", apart := false }
def FnFramesValidSaid : Prop := fnFramesValidRow.holds Try.pinned (OpenSpec.ofChange fnFramesValidSpec)

/-- ITS FALSE NEIGHBOUR: 'it returns false'. Refute it at one input. -/
def fnFramesValidWrong : ChangeSpec := { name := "fnFramesValid", fn := fun _ => fun
  | [d] => { results := [.lit (.bool false)], args := [d] }
  | _ => none }
def FnFramesValidWrongFalsely : Prop := fnFramesValidRow.holds Try.pinned (OpenSpec.ofChange fnFramesValidWrong)

/-- 'laws.FnLandmarkBefore': WHATEVER THE INPUT: true; the input reads as it did. -/
def fnLandmarkBeforeSpec : ChangeSpec := { name := "fnLandmarkBefore", fn := fun _ => fun
  | [d] => { results := [.lit (.bool true)], args := [d] }
  | _ => none }
def fnLandmarkBeforeRow : OpenClaim := { program := "ytndnmbhhfiacaaa", sum := "27801eafc42b166d4afd9c1e38a678518b0fad6b85c7cb25163184afce2ff661", func := "loop.example/objectlinker/laws.FnLandmarkBefore", spec := "fnLandmarkBefore", apart := false }
def FnLandmarkBeforeSaid : Prop := fnLandmarkBeforeRow.holds Try.pinned (OpenSpec.ofChange fnLandmarkBeforeSpec)

/-- ITS FALSE NEIGHBOUR: 'it returns false'. Refute it at one input. -/
def fnLandmarkBeforeWrong : ChangeSpec := { name := "fnLandmarkBefore", fn := fun _ => fun
  | [d] => { results := [.lit (.bool false)], args := [d] }
  | _ => none }
def FnLandmarkBeforeWrongFalsely : Prop := fnLandmarkBeforeRow.holds Try.pinned (OpenSpec.ofChange fnLandmarkBeforeWrong)

/-- 'laws.FnMachineValid': WHATEVER THE INPUT: true; the input reads as it did. -/
def fnMachineValidSpec : ChangeSpec := { name := "fnMachineValid", fn := fun _ => fun
  | [d] => { results := [.lit (.bool true)], args := [d] }
  | _ => none }
def fnMachineValidRow : OpenClaim := { program := "ytndnmbhhfiacaaa", sum := "27801eafc42b166d4afd9c1e38a678518b0fad6b85c7cb25163184afce2ff661", func := "loop.example/objectlinker/laws.FnMachineValid", spec := "fnMachineValid", unfollowed := true, recurses := true, apart := false }
def FnMachineValidSaid : Prop := fnMachineValidRow.holds Try.pinned (OpenSpec.ofChange fnMachineValidSpec)

/-- ITS FALSE NEIGHBOUR: 'it returns false'. Refute it at one input. -/
def fnMachineValidWrong : ChangeSpec := { name := "fnMachineValid", fn := fun _ => fun
  | [d] => { results := [.lit (.bool false)], args := [d] }
  | _ => none }
def FnMachineValidWrongFalsely : Prop := fnMachineValidRow.holds Try.pinned (OpenSpec.ofChange fnMachineValidWrong)

/-- 'laws.FnFrameOf': WHATEVER THE INPUT: true; the input reads as it did. -/
def fnFrameOfSpec : ChangeSpec := { name := "fnFrameOf", fn := fun _ => fun
  | [d] => { results := [.lit (.bool true)], args := [d] }
  | _ => none }
def fnFrameOfRow : OpenClaim := { program := "ytndnmbhhfiacaaa", sum := "27801eafc42b166d4afd9c1e38a678518b0fad6b85c7cb25163184afce2ff661", func := "loop.example/objectlinker/laws.FnFrameOf", spec := "fnFrameOf", apart := false }
def FnFrameOfSaid : Prop := fnFrameOfRow.holds Try.pinned (OpenSpec.ofChange fnFrameOfSpec)

/-- ITS FALSE NEIGHBOUR: 'it returns false'. Refute it at one input. -/
def fnFrameOfWrong : ChangeSpec := { name := "fnFrameOf", fn := fun _ => fun
  | [d] => { results := [.lit (.bool false)], args := [d] }
  | _ => none }
def FnFrameOfWrongFalsely : Prop := fnFrameOfRow.holds Try.pinned (OpenSpec.ofChange fnFrameOfWrong)

/-- 'laws.FnLineOf': WHATEVER THE INPUT: true; the input reads as it did. -/
def fnLineOfSpec : ChangeSpec := { name := "fnLineOf", fn := fun _ => fun
  | [d] => { results := [.lit (.bool true)], args := [d] }
  | _ => none }
def fnLineOfRow : OpenClaim := { program := "ytndnmbhhfiacaaa", sum := "27801eafc42b166d4afd9c1e38a678518b0fad6b85c7cb25163184afce2ff661", func := "loop.example/objectlinker/laws.FnLineOf", spec := "fnLineOf", apart := false }
def FnLineOfSaid : Prop := fnLineOfRow.holds Try.pinned (OpenSpec.ofChange fnLineOfSpec)

/-- ITS FALSE NEIGHBOUR: 'it returns false'. Refute it at one input. -/
def fnLineOfWrong : ChangeSpec := { name := "fnLineOf", fn := fun _ => fun
  | [d] => { results := [.lit (.bool false)], args := [d] }
  | _ => none }
def FnLineOfWrongFalsely : Prop := fnLineOfRow.holds Try.pinned (OpenSpec.ofChange fnLineOfWrong)

/-- 'laws.FnPutVar': WHATEVER THE INPUT: true; the input reads as it did. -/
def fnPutVarSpec : ChangeSpec := { name := "fnPutVar", fn := fun _ => fun
  | [d] => { results := [.lit (.bool true)], args := [d] }
  | _ => none }
def fnPutVarRow : OpenClaim := { program := "ytndnmbhhfiacaaa", sum := "27801eafc42b166d4afd9c1e38a678518b0fad6b85c7cb25163184afce2ff661", func := "loop.example/objectlinker/laws.FnPutVar", spec := "fnPutVar", apart := false }
def FnPutVarSaid : Prop := fnPutVarRow.holds Try.pinned (OpenSpec.ofChange fnPutVarSpec)

/-- ITS FALSE NEIGHBOUR: 'it returns false'. Refute it at one input. -/
def fnPutVarWrong : ChangeSpec := { name := "fnPutVar", fn := fun _ => fun
  | [d] => { results := [.lit (.bool false)], args := [d] }
  | _ => none }
def FnPutVarWrongFalsely : Prop := fnPutVarRow.holds Try.pinned (OpenSpec.ofChange fnPutVarWrong)

/-- 'laws.FnExactSealBytes': WHATEVER THE INPUT: true; the input reads as it did. -/
def fnExactSealBytesSpec : ChangeSpec := { name := "fnExactSealBytes", fn := fun _ => fun
  | [d] => { results := [.lit (.bool true)], args := [d] }
  | _ => none }
def fnExactSealBytesRow : OpenClaim := { program := "ytndnmbhhfiacaaa", sum := "27801eafc42b166d4afd9c1e38a678518b0fad6b85c7cb25163184afce2ff661", func := "loop.example/objectlinker/laws.FnExactSealBytes", spec := "fnExactSealBytes", apart := false }
def FnExactSealBytesSaid : Prop := fnExactSealBytesRow.holds Try.pinned (OpenSpec.ofChange fnExactSealBytesSpec)

/-- ITS FALSE NEIGHBOUR: 'it returns false'. Refute it at one input. -/
def fnExactSealBytesWrong : ChangeSpec := { name := "fnExactSealBytes", fn := fun _ => fun
  | [d] => { results := [.lit (.bool false)], args := [d] }
  | _ => none }
def FnExactSealBytesWrongFalsely : Prop := fnExactSealBytesRow.holds Try.pinned (OpenSpec.ofChange fnExactSealBytesWrong)

/-- 'laws.FnExactOpenSeal': WHATEVER THE INPUT: true; the input reads as it did. -/
def fnExactOpenSealSpec : ChangeSpec := { name := "fnExactOpenSeal", fn := fun _ => fun
  | [d] => { results := [.lit (.bool true)], args := [d] }
  | _ => none }
def fnExactOpenSealRow : OpenClaim := { program := "ytndnmbhhfiacaaa", sum := "27801eafc42b166d4afd9c1e38a678518b0fad6b85c7cb25163184afce2ff661", func := "loop.example/objectlinker/laws.FnExactOpenSeal", spec := "fnExactOpenSeal", apart := false }
def FnExactOpenSealSaid : Prop := fnExactOpenSealRow.holds Try.pinned (OpenSpec.ofChange fnExactOpenSealSpec)

/-- ITS FALSE NEIGHBOUR: 'it returns false'. Refute it at one input. -/
def fnExactOpenSealWrong : ChangeSpec := { name := "fnExactOpenSeal", fn := fun _ => fun
  | [d] => { results := [.lit (.bool false)], args := [d] }
  | _ => none }
def FnExactOpenSealWrongFalsely : Prop := fnExactOpenSealRow.holds Try.pinned (OpenSpec.ofChange fnExactOpenSealWrong)

/-- 'laws.FnGetVar': WHATEVER THE INPUT: true; the input reads as it did. -/
def fnGetVarSpec : ChangeSpec := { name := "fnGetVar", fn := fun _ => fun
  | [d] => { results := [.lit (.bool true)], args := [d] }
  | _ => none }
def fnGetVarRow : OpenClaim := { program := "ytndnmbhhfiacaaa", sum := "27801eafc42b166d4afd9c1e38a678518b0fad6b85c7cb25163184afce2ff661", func := "loop.example/objectlinker/laws.FnGetVar", spec := "fnGetVar", apart := false }
def FnGetVarSaid : Prop := fnGetVarRow.holds Try.pinned (OpenSpec.ofChange fnGetVarSpec)

/-- ITS FALSE NEIGHBOUR: 'it returns false'. Refute it at one input. -/
def fnGetVarWrong : ChangeSpec := { name := "fnGetVar", fn := fun _ => fun
  | [d] => { results := [.lit (.bool false)], args := [d] }
  | _ => none }
def FnGetVarWrongFalsely : Prop := fnGetVarRow.holds Try.pinned (OpenSpec.ofChange fnGetVarWrong)

/-- 'laws.FnUnwindStack': WHATEVER THE INPUT: true; the input reads as it did. -/
def fnUnwindStackSpec : ChangeSpec := { name := "fnUnwindStack", fn := fun _ => fun
  | [d] => { results := [.lit (.bool true)], args := [d] }
  | _ => none }
def fnUnwindStackRow : OpenClaim := { program := "ytndnmbhhfiacaaa", sum := "27801eafc42b166d4afd9c1e38a678518b0fad6b85c7cb25163184afce2ff661", func := "loop.example/objectlinker/laws.FnUnwindStack", spec := "fnUnwindStack", apart := false }
def FnUnwindStackSaid : Prop := fnUnwindStackRow.holds Try.pinned (OpenSpec.ofChange fnUnwindStackSpec)

/-- ITS FALSE NEIGHBOUR: 'it returns false'. Refute it at one input. -/
def fnUnwindStackWrong : ChangeSpec := { name := "fnUnwindStack", fn := fun _ => fun
  | [d] => { results := [.lit (.bool false)], args := [d] }
  | _ => none }
def FnUnwindStackWrongFalsely : Prop := fnUnwindStackRow.holds Try.pinned (OpenSpec.ofChange fnUnwindStackWrong)

/-- 'laws.FnPutCode': WHATEVER THE INPUT: true; the input reads as it did. -/
def fnPutCodeSpec : ChangeSpec := { name := "fnPutCode", fn := fun _ => fun
  | [d] => { results := [.lit (.bool true)], args := [d] }
  | _ => none }
def fnPutCodeRow : OpenClaim := { program := "ytndnmbhhfiacaaa", sum := "27801eafc42b166d4afd9c1e38a678518b0fad6b85c7cb25163184afce2ff661", func := "loop.example/objectlinker/laws.FnPutCode", spec := "fnPutCode", apart := false }
def FnPutCodeSaid : Prop := fnPutCodeRow.holds Try.pinned (OpenSpec.ofChange fnPutCodeSpec)

/-- ITS FALSE NEIGHBOUR: 'it returns false'. Refute it at one input. -/
def fnPutCodeWrong : ChangeSpec := { name := "fnPutCode", fn := fun _ => fun
  | [d] => { results := [.lit (.bool false)], args := [d] }
  | _ => none }
def FnPutCodeWrongFalsely : Prop := fnPutCodeRow.holds Try.pinned (OpenSpec.ofChange fnPutCodeWrong)

/-- 'laws.FnSealBytes': WHATEVER THE INPUT: true; the input reads as it did. -/
def fnSealBytesSpec : ChangeSpec := { name := "fnSealBytes", fn := fun _ => fun
  | [d] => { results := [.lit (.bool true)], args := [d] }
  | _ => none }
def fnSealBytesRow : OpenClaim := { program := "ytndnmbhhfiacaaa", sum := "27801eafc42b166d4afd9c1e38a678518b0fad6b85c7cb25163184afce2ff661", func := "loop.example/objectlinker/laws.FnSealBytes", spec := "fnSealBytes", apart := false }
def FnSealBytesSaid : Prop := fnSealBytesRow.holds Try.pinned (OpenSpec.ofChange fnSealBytesSpec)

/-- ITS FALSE NEIGHBOUR: 'it returns false'. Refute it at one input. -/
def fnSealBytesWrong : ChangeSpec := { name := "fnSealBytes", fn := fun _ => fun
  | [d] => { results := [.lit (.bool false)], args := [d] }
  | _ => none }
def FnSealBytesWrongFalsely : Prop := fnSealBytesRow.holds Try.pinned (OpenSpec.ofChange fnSealBytesWrong)

/-- 'laws.FnGetCode': WHATEVER THE INPUT: true; the input reads as it did. -/
def fnGetCodeSpec : ChangeSpec := { name := "fnGetCode", fn := fun _ => fun
  | [d] => { results := [.lit (.bool true)], args := [d] }
  | _ => none }
def fnGetCodeRow : OpenClaim := { program := "ytndnmbhhfiacaaa", sum := "27801eafc42b166d4afd9c1e38a678518b0fad6b85c7cb25163184afce2ff661", func := "loop.example/objectlinker/laws.FnGetCode", spec := "fnGetCode", apart := false }
def FnGetCodeSaid : Prop := fnGetCodeRow.holds Try.pinned (OpenSpec.ofChange fnGetCodeSpec)

/-- ITS FALSE NEIGHBOUR: 'it returns false'. Refute it at one input. -/
def fnGetCodeWrong : ChangeSpec := { name := "fnGetCode", fn := fun _ => fun
  | [d] => { results := [.lit (.bool false)], args := [d] }
  | _ => none }
def FnGetCodeWrongFalsely : Prop := fnGetCodeRow.holds Try.pinned (OpenSpec.ofChange fnGetCodeWrong)

/-- 'laws.FnOpenSeal': WHATEVER THE INPUT: true; the input reads as it did. -/
def fnOpenSealSpec : ChangeSpec := { name := "fnOpenSeal", fn := fun _ => fun
  | [d] => { results := [.lit (.bool true)], args := [d] }
  | _ => none }
def fnOpenSealRow : OpenClaim := { program := "ytndnmbhhfiacaaa", sum := "27801eafc42b166d4afd9c1e38a678518b0fad6b85c7cb25163184afce2ff661", func := "loop.example/objectlinker/laws.FnOpenSeal", spec := "fnOpenSeal", apart := false }
def FnOpenSealSaid : Prop := fnOpenSealRow.holds Try.pinned (OpenSpec.ofChange fnOpenSealSpec)

/-- ITS FALSE NEIGHBOUR: 'it returns false'. Refute it at one input. -/
def fnOpenSealWrong : ChangeSpec := { name := "fnOpenSeal", fn := fun _ => fun
  | [d] => { results := [.lit (.bool false)], args := [d] }
  | _ => none }
def FnOpenSealWrongFalsely : Prop := fnOpenSealRow.holds Try.pinned (OpenSpec.ofChange fnOpenSealWrong)

/-- 'laws.FnPutRows': WHATEVER THE INPUT: true; the input reads as it did. -/
def fnPutRowsSpec : ChangeSpec := { name := "fnPutRows", fn := fun _ => fun
  | [d] => { results := [.lit (.bool true)], args := [d] }
  | _ => none }
def fnPutRowsRow : OpenClaim := { program := "ytndnmbhhfiacaaa", sum := "27801eafc42b166d4afd9c1e38a678518b0fad6b85c7cb25163184afce2ff661", func := "loop.example/objectlinker/laws.FnPutRows", spec := "fnPutRows", apart := false }
def FnPutRowsSaid : Prop := fnPutRowsRow.holds Try.pinned (OpenSpec.ofChange fnPutRowsSpec)

/-- ITS FALSE NEIGHBOUR: 'it returns false'. Refute it at one input. -/
def fnPutRowsWrong : ChangeSpec := { name := "fnPutRows", fn := fun _ => fun
  | [d] => { results := [.lit (.bool false)], args := [d] }
  | _ => none }
def FnPutRowsWrongFalsely : Prop := fnPutRowsRow.holds Try.pinned (OpenSpec.ofChange fnPutRowsWrong)

/-- 'laws.FnExactGetRows': WHATEVER THE INPUT: true; the input reads as it did. -/
def fnExactGetRowsSpec : ChangeSpec := { name := "fnExactGetRows", fn := fun _ => fun
  | [d] => { results := [.lit (.bool true)], args := [d] }
  | _ => none }
def fnExactGetRowsRow : OpenClaim := { program := "ytndnmbhhfiacaaa", sum := "27801eafc42b166d4afd9c1e38a678518b0fad6b85c7cb25163184afce2ff661", func := "loop.example/objectlinker/laws.FnExactGetRows", spec := "fnExactGetRows", apart := false }
def FnExactGetRowsSaid : Prop := fnExactGetRowsRow.holds Try.pinned (OpenSpec.ofChange fnExactGetRowsSpec)

/-- ITS FALSE NEIGHBOUR: 'it returns false'. Refute it at one input. -/
def fnExactGetRowsWrong : ChangeSpec := { name := "fnExactGetRows", fn := fun _ => fun
  | [d] => { results := [.lit (.bool false)], args := [d] }
  | _ => none }
def FnExactGetRowsWrongFalsely : Prop := fnExactGetRowsRow.holds Try.pinned (OpenSpec.ofChange fnExactGetRowsWrong)

/-- 'laws.FnExactApplyPatches': WHATEVER THE INPUT: true; the input reads as it did. -/
def fnExactApplyPatchesSpec : ChangeSpec := { name := "fnExactApplyPatches", fn := fun _ => fun
  | [d1, d2] => { results := [.lit (.bool true)], args := [d1, d2] }
  | _ => none }
def fnExactApplyPatchesRow : OpenClaim := { program := "ytndnmbhhfiacaaa", sum := "27801eafc42b166d4afd9c1e38a678518b0fad6b85c7cb25163184afce2ff661", func := "loop.example/objectlinker/laws.FnExactApplyPatches", spec := "fnExactApplyPatches", apart := false }
def FnExactApplyPatchesSaid : Prop := fnExactApplyPatchesRow.holds Try.pinned (OpenSpec.ofChange fnExactApplyPatchesSpec)

/-- ITS FALSE NEIGHBOUR: 'it returns false'. Refute it at one input. -/
def fnExactApplyPatchesWrong : ChangeSpec := { name := "fnExactApplyPatches", fn := fun _ => fun
  | [d1, d2] => { results := [.lit (.bool false)], args := [d1, d2] }
  | _ => none }
def FnExactApplyPatchesWrongFalsely : Prop := fnExactApplyPatchesRow.holds Try.pinned (OpenSpec.ofChange fnExactApplyPatchesWrong)

/-- 'laws.FnGetRows': WHATEVER THE INPUT: true; the input reads as it did. -/
def fnGetRowsSpec : ChangeSpec := { name := "fnGetRows", fn := fun _ => fun
  | [d] => { results := [.lit (.bool true)], args := [d] }
  | _ => none }
def fnGetRowsRow : OpenClaim := { program := "ytndnmbhhfiacaaa", sum := "27801eafc42b166d4afd9c1e38a678518b0fad6b85c7cb25163184afce2ff661", func := "loop.example/objectlinker/laws.FnGetRows", spec := "fnGetRows", apart := false }
def FnGetRowsSaid : Prop := fnGetRowsRow.holds Try.pinned (OpenSpec.ofChange fnGetRowsSpec)

/-- ITS FALSE NEIGHBOUR: 'it returns false'. Refute it at one input. -/
def fnGetRowsWrong : ChangeSpec := { name := "fnGetRows", fn := fun _ => fun
  | [d] => { results := [.lit (.bool false)], args := [d] }
  | _ => none }
def FnGetRowsWrongFalsely : Prop := fnGetRowsRow.holds Try.pinned (OpenSpec.ofChange fnGetRowsWrong)

/-- 'laws.FnExactStepMachine': WHATEVER THE INPUT: true; the input reads as it did. -/
def fnExactStepMachineSpec : ChangeSpec := { name := "fnExactStepMachine", fn := fun _ => fun
  | [d1, d2] => { results := [.lit (.bool true)], args := [d1, d2] }
  | _ => none }
def fnExactStepMachineRow : OpenClaim := { program := "ytndnmbhhfiacaaa", sum := "27801eafc42b166d4afd9c1e38a678518b0fad6b85c7cb25163184afce2ff661", func := "loop.example/objectlinker/laws.FnExactStepMachine", spec := "fnExactStepMachine", unfollowed := true, recurses := true, apart := false }
def FnExactStepMachineSaid : Prop := fnExactStepMachineRow.holds Try.pinned (OpenSpec.ofChange fnExactStepMachineSpec)

/-- ITS FALSE NEIGHBOUR: 'it returns false'. Refute it at one input. -/
def fnExactStepMachineWrong : ChangeSpec := { name := "fnExactStepMachine", fn := fun _ => fun
  | [d1, d2] => { results := [.lit (.bool false)], args := [d1, d2] }
  | _ => none }
def FnExactStepMachineWrongFalsely : Prop := fnExactStepMachineRow.holds Try.pinned (OpenSpec.ofChange fnExactStepMachineWrong)

/-- 'laws.FnStepMachine': WHATEVER THE INPUT: true; the input reads as it did. -/
def fnStepMachineSpec : ChangeSpec := { name := "fnStepMachine", fn := fun _ => fun
  | [d] => { results := [.lit (.bool true)], args := [d] }
  | _ => none }
def fnStepMachineRow : OpenClaim := { program := "ytndnmbhhfiacaaa", sum := "27801eafc42b166d4afd9c1e38a678518b0fad6b85c7cb25163184afce2ff661", func := "loop.example/objectlinker/laws.FnStepMachine", spec := "fnStepMachine", unfollowed := true, recurses := true, apart := false }
def FnStepMachineSaid : Prop := fnStepMachineRow.holds Try.pinned (OpenSpec.ofChange fnStepMachineSpec)

/-- ITS FALSE NEIGHBOUR: 'it returns false'. Refute it at one input. -/
def fnStepMachineWrong : ChangeSpec := { name := "fnStepMachine", fn := fun _ => fun
  | [d] => { results := [.lit (.bool false)], args := [d] }
  | _ => none }
def FnStepMachineWrongFalsely : Prop := fnStepMachineRow.holds Try.pinned (OpenSpec.ofChange fnStepMachineWrong)

/- THE SECOND FORM. 'bulk': how many values and letters a reading holds, each counted each time it is reached (what is shared counts as often as it is met; a slice's spare places count too). A statement '..UptoSaid' is the law's where the arguments, and the package variables that the reading takes, are together of bulk at most 1048576: NARROWER than '..Said'. Prove '..Said' where nothing that the law and all that it calls make is longer than what came in: it says more and counts as full. Else prove '..UptoSaid'. A law counts once. -/
mutual
def uptoBulk {H : Type} : DataW H → Nat
  | .lit (.string bytes) => bytes.length + 1
  | .lit _ => 1
  | .nil => 1
  | .ptr d => uptoBulk d + 1
  | .slice elems spare => uptoBulkAll elems + uptoBulkAll spare + 1
  | .agg parts => uptoBulkAll parts + 1
  | .iface _ d => uptoBulk d + 1
  | .map entries => uptoBulkEntries entries + 1
  | .held _ => 1
def uptoBulkAll {H : Type} : List (DataW H) → Nat
  | [] => 0
  | d :: r => uptoBulk d + uptoBulkAll r
def uptoBulkEntries {H : Type} : List (Lit × DataW H) → Nat
  | [] => 0
  | x :: r => uptoBulkEntry x + uptoBulkEntries r
def uptoBulkEntry {H : Type} : Lit × DataW H → Nat
  | (.string bytes, d) => bytes.length + uptoBulk d + 1
  | (_, d) => uptoBulk d + 1
 end
def uptoSmall : (H : Type) → List (DataW H) → Bool := fun _ ds => decide (uptoBulkAll ds ≤ 1048576)
def OpenSpec.upto (s : _root_.Go.ChangeSpec) : _root_.Go.OpenSpec := { _root_.Go.OpenSpec.ofChange s with cond := some uptoSmall }

/-- 'laws.FnSumOf', WHERE WHAT IT READS IS OF BULK AT MOST 1048576: true; the input reads as it did. -/
def fnSumOfUptoRow : OpenClaim := { program := "ytndnmbhhfiacaaa", sum := "27801eafc42b166d4afd9c1e38a678518b0fad6b85c7cb25163184afce2ff661", func := "loop.example/objectlinker/laws.FnSumOf", spec := "fnSumOf", apart := false, narrowed := true }
def FnSumOfUptoSaid : Prop := fnSumOfUptoRow.holds Try.pinned (OpenSpec.upto fnSumOfSpec)

/-- 'laws.FnRowsValid', WHERE WHAT IT READS IS OF BULK AT MOST 1048576: true; the input reads as it did. -/
def fnRowsValidUptoRow : OpenClaim := { program := "ytndnmbhhfiacaaa", sum := "27801eafc42b166d4afd9c1e38a678518b0fad6b85c7cb25163184afce2ff661", func := "loop.example/objectlinker/laws.FnRowsValid", spec := "fnRowsValid", apart := false, narrowed := true }
def FnRowsValidUptoSaid : Prop := fnRowsValidUptoRow.holds Try.pinned (OpenSpec.upto fnRowsValidSpec)

/-- 'laws.FnFramesValid', WHERE WHAT IT READS IS OF BULK AT MOST 1048576: true; the input reads as it did. -/
def fnFramesValidUptoRow : OpenClaim := { program := "ytndnmbhhfiacaaa", sum := "27801eafc42b166d4afd9c1e38a678518b0fad6b85c7cb25163184afce2ff661", func := "loop.example/objectlinker/laws.FnFramesValid", spec := "fnFramesValid", apart := false, narrowed := true }
def FnFramesValidUptoSaid : Prop := fnFramesValidUptoRow.holds Try.pinned (OpenSpec.upto fnFramesValidSpec)

/-- 'laws.FnLandmarkBefore', WHERE WHAT IT READS IS OF BULK AT MOST 1048576: true; the input reads as it did. -/
def fnLandmarkBeforeUptoRow : OpenClaim := { program := "ytndnmbhhfiacaaa", sum := "27801eafc42b166d4afd9c1e38a678518b0fad6b85c7cb25163184afce2ff661", func := "loop.example/objectlinker/laws.FnLandmarkBefore", spec := "fnLandmarkBefore", apart := false, narrowed := true }
def FnLandmarkBeforeUptoSaid : Prop := fnLandmarkBeforeUptoRow.holds Try.pinned (OpenSpec.upto fnLandmarkBeforeSpec)

/-- 'laws.FnMachineValid', WHERE WHAT IT READS IS OF BULK AT MOST 1048576: true; the input reads as it did. -/
def fnMachineValidUptoRow : OpenClaim := { program := "ytndnmbhhfiacaaa", sum := "27801eafc42b166d4afd9c1e38a678518b0fad6b85c7cb25163184afce2ff661", func := "loop.example/objectlinker/laws.FnMachineValid", spec := "fnMachineValid", unfollowed := true, recurses := true, apart := false, narrowed := true }
def FnMachineValidUptoSaid : Prop := fnMachineValidUptoRow.holds Try.pinned (OpenSpec.upto fnMachineValidSpec)

/-- 'laws.FnFrameOf', WHERE WHAT IT READS IS OF BULK AT MOST 1048576: true; the input reads as it did. -/
def fnFrameOfUptoRow : OpenClaim := { program := "ytndnmbhhfiacaaa", sum := "27801eafc42b166d4afd9c1e38a678518b0fad6b85c7cb25163184afce2ff661", func := "loop.example/objectlinker/laws.FnFrameOf", spec := "fnFrameOf", apart := false, narrowed := true }
def FnFrameOfUptoSaid : Prop := fnFrameOfUptoRow.holds Try.pinned (OpenSpec.upto fnFrameOfSpec)

/-- 'laws.FnLineOf', WHERE WHAT IT READS IS OF BULK AT MOST 1048576: true; the input reads as it did. -/
def fnLineOfUptoRow : OpenClaim := { program := "ytndnmbhhfiacaaa", sum := "27801eafc42b166d4afd9c1e38a678518b0fad6b85c7cb25163184afce2ff661", func := "loop.example/objectlinker/laws.FnLineOf", spec := "fnLineOf", apart := false, narrowed := true }
def FnLineOfUptoSaid : Prop := fnLineOfUptoRow.holds Try.pinned (OpenSpec.upto fnLineOfSpec)

/-- 'laws.FnPutVar', WHERE WHAT IT READS IS OF BULK AT MOST 1048576: true; the input reads as it did. -/
def fnPutVarUptoRow : OpenClaim := { program := "ytndnmbhhfiacaaa", sum := "27801eafc42b166d4afd9c1e38a678518b0fad6b85c7cb25163184afce2ff661", func := "loop.example/objectlinker/laws.FnPutVar", spec := "fnPutVar", apart := false, narrowed := true }
def FnPutVarUptoSaid : Prop := fnPutVarUptoRow.holds Try.pinned (OpenSpec.upto fnPutVarSpec)

/-- 'laws.FnExactSealBytes', WHERE WHAT IT READS IS OF BULK AT MOST 1048576: true; the input reads as it did. -/
def fnExactSealBytesUptoRow : OpenClaim := { program := "ytndnmbhhfiacaaa", sum := "27801eafc42b166d4afd9c1e38a678518b0fad6b85c7cb25163184afce2ff661", func := "loop.example/objectlinker/laws.FnExactSealBytes", spec := "fnExactSealBytes", apart := false, narrowed := true }
def FnExactSealBytesUptoSaid : Prop := fnExactSealBytesUptoRow.holds Try.pinned (OpenSpec.upto fnExactSealBytesSpec)

/-- 'laws.FnExactOpenSeal', WHERE WHAT IT READS IS OF BULK AT MOST 1048576: true; the input reads as it did. -/
def fnExactOpenSealUptoRow : OpenClaim := { program := "ytndnmbhhfiacaaa", sum := "27801eafc42b166d4afd9c1e38a678518b0fad6b85c7cb25163184afce2ff661", func := "loop.example/objectlinker/laws.FnExactOpenSeal", spec := "fnExactOpenSeal", apart := false, narrowed := true }
def FnExactOpenSealUptoSaid : Prop := fnExactOpenSealUptoRow.holds Try.pinned (OpenSpec.upto fnExactOpenSealSpec)

/-- 'laws.FnGetVar', WHERE WHAT IT READS IS OF BULK AT MOST 1048576: true; the input reads as it did. -/
def fnGetVarUptoRow : OpenClaim := { program := "ytndnmbhhfiacaaa", sum := "27801eafc42b166d4afd9c1e38a678518b0fad6b85c7cb25163184afce2ff661", func := "loop.example/objectlinker/laws.FnGetVar", spec := "fnGetVar", apart := false, narrowed := true }
def FnGetVarUptoSaid : Prop := fnGetVarUptoRow.holds Try.pinned (OpenSpec.upto fnGetVarSpec)

/-- 'laws.FnUnwindStack', WHERE WHAT IT READS IS OF BULK AT MOST 1048576: true; the input reads as it did. -/
def fnUnwindStackUptoRow : OpenClaim := { program := "ytndnmbhhfiacaaa", sum := "27801eafc42b166d4afd9c1e38a678518b0fad6b85c7cb25163184afce2ff661", func := "loop.example/objectlinker/laws.FnUnwindStack", spec := "fnUnwindStack", apart := false, narrowed := true }
def FnUnwindStackUptoSaid : Prop := fnUnwindStackUptoRow.holds Try.pinned (OpenSpec.upto fnUnwindStackSpec)

/-- 'laws.FnPutCode', WHERE WHAT IT READS IS OF BULK AT MOST 1048576: true; the input reads as it did. -/
def fnPutCodeUptoRow : OpenClaim := { program := "ytndnmbhhfiacaaa", sum := "27801eafc42b166d4afd9c1e38a678518b0fad6b85c7cb25163184afce2ff661", func := "loop.example/objectlinker/laws.FnPutCode", spec := "fnPutCode", apart := false, narrowed := true }
def FnPutCodeUptoSaid : Prop := fnPutCodeUptoRow.holds Try.pinned (OpenSpec.upto fnPutCodeSpec)

/-- 'laws.FnSealBytes', WHERE WHAT IT READS IS OF BULK AT MOST 1048576: true; the input reads as it did. -/
def fnSealBytesUptoRow : OpenClaim := { program := "ytndnmbhhfiacaaa", sum := "27801eafc42b166d4afd9c1e38a678518b0fad6b85c7cb25163184afce2ff661", func := "loop.example/objectlinker/laws.FnSealBytes", spec := "fnSealBytes", apart := false, narrowed := true }
def FnSealBytesUptoSaid : Prop := fnSealBytesUptoRow.holds Try.pinned (OpenSpec.upto fnSealBytesSpec)

/-- 'laws.FnGetCode', WHERE WHAT IT READS IS OF BULK AT MOST 1048576: true; the input reads as it did. -/
def fnGetCodeUptoRow : OpenClaim := { program := "ytndnmbhhfiacaaa", sum := "27801eafc42b166d4afd9c1e38a678518b0fad6b85c7cb25163184afce2ff661", func := "loop.example/objectlinker/laws.FnGetCode", spec := "fnGetCode", apart := false, narrowed := true }
def FnGetCodeUptoSaid : Prop := fnGetCodeUptoRow.holds Try.pinned (OpenSpec.upto fnGetCodeSpec)

/-- 'laws.FnOpenSeal', WHERE WHAT IT READS IS OF BULK AT MOST 1048576: true; the input reads as it did. -/
def fnOpenSealUptoRow : OpenClaim := { program := "ytndnmbhhfiacaaa", sum := "27801eafc42b166d4afd9c1e38a678518b0fad6b85c7cb25163184afce2ff661", func := "loop.example/objectlinker/laws.FnOpenSeal", spec := "fnOpenSeal", apart := false, narrowed := true }
def FnOpenSealUptoSaid : Prop := fnOpenSealUptoRow.holds Try.pinned (OpenSpec.upto fnOpenSealSpec)

/-- 'laws.FnPutRows', WHERE WHAT IT READS IS OF BULK AT MOST 1048576: true; the input reads as it did. -/
def fnPutRowsUptoRow : OpenClaim := { program := "ytndnmbhhfiacaaa", sum := "27801eafc42b166d4afd9c1e38a678518b0fad6b85c7cb25163184afce2ff661", func := "loop.example/objectlinker/laws.FnPutRows", spec := "fnPutRows", apart := false, narrowed := true }
def FnPutRowsUptoSaid : Prop := fnPutRowsUptoRow.holds Try.pinned (OpenSpec.upto fnPutRowsSpec)

/-- 'laws.FnExactGetRows', WHERE WHAT IT READS IS OF BULK AT MOST 1048576: true; the input reads as it did. -/
def fnExactGetRowsUptoRow : OpenClaim := { program := "ytndnmbhhfiacaaa", sum := "27801eafc42b166d4afd9c1e38a678518b0fad6b85c7cb25163184afce2ff661", func := "loop.example/objectlinker/laws.FnExactGetRows", spec := "fnExactGetRows", apart := false, narrowed := true }
def FnExactGetRowsUptoSaid : Prop := fnExactGetRowsUptoRow.holds Try.pinned (OpenSpec.upto fnExactGetRowsSpec)

/-- 'laws.FnExactApplyPatches', WHERE WHAT IT READS IS OF BULK AT MOST 1048576: true; the input reads as it did. -/
def fnExactApplyPatchesUptoRow : OpenClaim := { program := "ytndnmbhhfiacaaa", sum := "27801eafc42b166d4afd9c1e38a678518b0fad6b85c7cb25163184afce2ff661", func := "loop.example/objectlinker/laws.FnExactApplyPatches", spec := "fnExactApplyPatches", apart := false, narrowed := true }
def FnExactApplyPatchesUptoSaid : Prop := fnExactApplyPatchesUptoRow.holds Try.pinned (OpenSpec.upto fnExactApplyPatchesSpec)

/-- 'laws.FnGetRows', WHERE WHAT IT READS IS OF BULK AT MOST 1048576: true; the input reads as it did. -/
def fnGetRowsUptoRow : OpenClaim := { program := "ytndnmbhhfiacaaa", sum := "27801eafc42b166d4afd9c1e38a678518b0fad6b85c7cb25163184afce2ff661", func := "loop.example/objectlinker/laws.FnGetRows", spec := "fnGetRows", apart := false, narrowed := true }
def FnGetRowsUptoSaid : Prop := fnGetRowsUptoRow.holds Try.pinned (OpenSpec.upto fnGetRowsSpec)

/-- 'laws.FnExactStepMachine', WHERE WHAT IT READS IS OF BULK AT MOST 1048576: true; the input reads as it did. -/
def fnExactStepMachineUptoRow : OpenClaim := { program := "ytndnmbhhfiacaaa", sum := "27801eafc42b166d4afd9c1e38a678518b0fad6b85c7cb25163184afce2ff661", func := "loop.example/objectlinker/laws.FnExactStepMachine", spec := "fnExactStepMachine", unfollowed := true, recurses := true, apart := false, narrowed := true }
def FnExactStepMachineUptoSaid : Prop := fnExactStepMachineUptoRow.holds Try.pinned (OpenSpec.upto fnExactStepMachineSpec)

/-- 'laws.FnStepMachine', WHERE WHAT IT READS IS OF BULK AT MOST 1048576: true; the input reads as it did. -/
def fnStepMachineUptoRow : OpenClaim := { program := "ytndnmbhhfiacaaa", sum := "27801eafc42b166d4afd9c1e38a678518b0fad6b85c7cb25163184afce2ff661", func := "loop.example/objectlinker/laws.FnStepMachine", spec := "fnStepMachine", unfollowed := true, recurses := true, apart := false, narrowed := true }
def FnStepMachineUptoSaid : Prop := fnStepMachineUptoRow.holds Try.pinned (OpenSpec.upto fnStepMachineSpec)

end Rows
end Go.Proofs.Ytndnmbhhfiacaaa
