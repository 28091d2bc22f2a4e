/-
  No cell of these rows narrows 'for every input' (looked for: loops, veiled, ifaces, maps, wideKeys, modest, calm, conditions, laid).
  DERIVED. THE GIVEN ROWS OF THIS SEAT. 12 by the template 'for every input the law returns true; each argument reads behind the call as it read before'; 0 by the template 'total and deterministic' (their statements: YtbnepccneooemaaTotals.lean).
  GIVEN WITH THE SEED: the statements are not yours to turn. If you find one false, say at which input.
  Laid BY PROGRAM, IN A SANDBOX (cutbox-rows.mjs): the forced cells as the released guide's own fill.sh prints them over the translation 3df9fbcc3ef41acd… (all of the seat's roots in one cut). By AI agents, Wed Nov 11 2026. No macro, syntax, notation, axiom, sorry.
-/
import Derived.Test.YtbnepccneooemaaChecked
import GoSem.Claim
import GoSem.ClaimJoined
import GoSem.ClaimMapViews
import Derived.JoinedTies
import Derived.KernelRfl
namespace Go.Proofs.Ytbnepccneooemaa
/- THE CELL 'sum', in the pinned program and in every row, IS THE sha256 OF THE DUMP (.gsa) THAT YtbnepccneooemaaProg.lean LOADS. Nothing in Lean hashes anything: it is a label: what it is worth is what the hold of that sum in a sandbox is worth. -/
noncomputable def Try.pinned : Pinned := { name := "ytbnepccneooemaa", sum := "3df9fbcc3ef41acd808240884b86289a5ddcb9a5ddcb765da2ab7fb27c173ca9", checked := Try.checked }
namespace Rows
def none {H : Type} : Left H := { results := [], args := [] }

/-- 'laws.FnExactRowsValid': WHATEVER THE INPUT: true; the input reads as it did. -/
def fnExactRowsValidSpec : ChangeSpec := { name := "fnExactRowsValid", fn := fun _ => fun
  | [d] => { results := [.lit (.bool true)], args := [d] }
  | _ => none }
def fnExactRowsValidRow : OpenClaim := { program := "ytbnepccneooemaa", sum := "3df9fbcc3ef41acd808240884b86289a5ddcb9a5ddcb765da2ab7fb27c173ca9", func := "loop.example/objectlinker/laws.FnExactRowsValid", spec := "fnExactRowsValid", apart := false }
def FnExactRowsValidSaid : Prop := fnExactRowsValidRow.holds Try.pinned (OpenSpec.ofChange fnExactRowsValidSpec)

/-- ITS FALSE NEIGHBOUR: 'it returns false'. Refute it at one input. -/
def fnExactRowsValidWrong : ChangeSpec := { name := "fnExactRowsValid", fn := fun _ => fun
  | [d] => { results := [.lit (.bool false)], args := [d] }
  | _ => none }
def FnExactRowsValidWrongFalsely : Prop := fnExactRowsValidRow.holds Try.pinned (OpenSpec.ofChange fnExactRowsValidWrong)

/-- 'laws.FnExactGetVar': WHATEVER THE INPUT: true; the input reads as it did. -/
def fnExactGetVarSpec : ChangeSpec := { name := "fnExactGetVar", fn := fun _ => fun
  | [d1, d2] => { results := [.lit (.bool true)], args := [d1, d2] }
  | _ => none }
def fnExactGetVarRow : OpenClaim := { program := "ytbnepccneooemaa", sum := "3df9fbcc3ef41acd808240884b86289a5ddcb9a5ddcb765da2ab7fb27c173ca9", func := "loop.example/objectlinker/laws.FnExactGetVar", spec := "fnExactGetVar", apart := false }
def FnExactGetVarSaid : Prop := fnExactGetVarRow.holds Try.pinned (OpenSpec.ofChange fnExactGetVarSpec)

/-- ITS FALSE NEIGHBOUR: 'it returns false'. Refute it at one input. -/
def fnExactGetVarWrong : ChangeSpec := { name := "fnExactGetVar", fn := fun _ => fun
  | [d1, d2] => { results := [.lit (.bool false)], args := [d1, d2] }
  | _ => none }
def FnExactGetVarWrongFalsely : Prop := fnExactGetVarRow.holds Try.pinned (OpenSpec.ofChange fnExactGetVarWrong)

/-- 'laws.FnExactFramesValid': WHATEVER THE INPUT: true; the input reads as it did. -/
def fnExactFramesValidSpec : ChangeSpec := { name := "fnExactFramesValid", fn := fun _ => fun
  | [d] => { results := [.lit (.bool true)], args := [d] }
  | _ => none }
def fnExactFramesValidRow : OpenClaim := { program := "ytbnepccneooemaa", sum := "3df9fbcc3ef41acd808240884b86289a5ddcb9a5ddcb765da2ab7fb27c173ca9", func := "loop.example/objectlinker/laws.FnExactFramesValid", spec := "fnExactFramesValid", apart := false }
def FnExactFramesValidSaid : Prop := fnExactFramesValidRow.holds Try.pinned (OpenSpec.ofChange fnExactFramesValidSpec)

/-- ITS FALSE NEIGHBOUR: 'it returns false'. Refute it at one input. -/
def fnExactFramesValidWrong : ChangeSpec := { name := "fnExactFramesValid", fn := fun _ => fun
  | [d] => { results := [.lit (.bool false)], args := [d] }
  | _ => none }
def FnExactFramesValidWrongFalsely : Prop := fnExactFramesValidRow.holds Try.pinned (OpenSpec.ofChange fnExactFramesValidWrong)

/-- 'laws.FnExactLineOf': WHATEVER THE INPUT: true; the input reads as it did. -/
def fnExactLineOfSpec : ChangeSpec := { name := "fnExactLineOf", fn := fun _ => fun
  | [d1, d2] => { results := [.lit (.bool true)], args := [d1, d2] }
  | _ => none }
def fnExactLineOfRow : OpenClaim := { program := "ytbnepccneooemaa", sum := "3df9fbcc3ef41acd808240884b86289a5ddcb9a5ddcb765da2ab7fb27c173ca9", func := "loop.example/objectlinker/laws.FnExactLineOf", spec := "fnExactLineOf", apart := false }
def FnExactLineOfSaid : Prop := fnExactLineOfRow.holds Try.pinned (OpenSpec.ofChange fnExactLineOfSpec)

/-- ITS FALSE NEIGHBOUR: 'it returns false'. Refute it at one input. -/
def fnExactLineOfWrong : ChangeSpec := { name := "fnExactLineOf", fn := fun _ => fun
  | [d1, d2] => { results := [.lit (.bool false)], args := [d1, d2] }
  | _ => none }
def FnExactLineOfWrongFalsely : Prop := fnExactLineOfRow.holds Try.pinned (OpenSpec.ofChange fnExactLineOfWrong)

/-- 'laws.FnExactFrameOf': WHATEVER THE INPUT: true; the input reads as it did. -/
def fnExactFrameOfSpec : ChangeSpec := { name := "fnExactFrameOf", fn := fun _ => fun
  | [d1, d2] => { results := [.lit (.bool true)], args := [d1, d2] }
  | _ => none }
def fnExactFrameOfRow : OpenClaim := { program := "ytbnepccneooemaa", sum := "3df9fbcc3ef41acd808240884b86289a5ddcb9a5ddcb765da2ab7fb27c173ca9", func := "loop.example/objectlinker/laws.FnExactFrameOf", spec := "fnExactFrameOf", apart := false }
def FnExactFrameOfSaid : Prop := fnExactFrameOfRow.holds Try.pinned (OpenSpec.ofChange fnExactFrameOfSpec)

/-- ITS FALSE NEIGHBOUR: 'it returns false'. Refute it at one input. -/
def fnExactFrameOfWrong : ChangeSpec := { name := "fnExactFrameOf", fn := fun _ => fun
  | [d1, d2] => { results := [.lit (.bool false)], args := [d1, d2] }
  | _ => none }
def FnExactFrameOfWrongFalsely : Prop := fnExactFrameOfRow.holds Try.pinned (OpenSpec.ofChange fnExactFrameOfWrong)

/-- 'laws.FnExactMachineValid': WHATEVER THE INPUT: true; the input reads as it did. -/
def fnExactMachineValidSpec : ChangeSpec := { name := "fnExactMachineValid", fn := fun _ => fun
  | [d] => { results := [.lit (.bool true)], args := [d] }
  | _ => none }
def fnExactMachineValidRow : OpenClaim := { program := "ytbnepccneooemaa", sum := "3df9fbcc3ef41acd808240884b86289a5ddcb9a5ddcb765da2ab7fb27c173ca9", func := "loop.example/objectlinker/laws.FnExactMachineValid", spec := "fnExactMachineValid", unfollowed := true, recurses := true, apart := false }
def FnExactMachineValidSaid : Prop := fnExactMachineValidRow.holds Try.pinned (OpenSpec.ofChange fnExactMachineValidSpec)

/-- ITS FALSE NEIGHBOUR: 'it returns false'. Refute it at one input. -/
def fnExactMachineValidWrong : ChangeSpec := { name := "fnExactMachineValid", fn := fun _ => fun
  | [d] => { results := [.lit (.bool false)], args := [d] }
  | _ => none }
def FnExactMachineValidWrongFalsely : Prop := fnExactMachineValidRow.holds Try.pinned (OpenSpec.ofChange fnExactMachineValidWrong)

/-- 'laws.FnExactLandmarkBefore': WHATEVER THE INPUT: true; the input reads as it did. -/
def fnExactLandmarkBeforeSpec : ChangeSpec := { name := "fnExactLandmarkBefore", fn := fun _ => fun
  | [d1, d2] => { results := [.lit (.bool true)], args := [d1, d2] }
  | _ => none }
def fnExactLandmarkBeforeRow : OpenClaim := { program := "ytbnepccneooemaa", sum := "3df9fbcc3ef41acd808240884b86289a5ddcb9a5ddcb765da2ab7fb27c173ca9", func := "loop.example/objectlinker/laws.FnExactLandmarkBefore", spec := "fnExactLandmarkBefore", apart := false }
def FnExactLandmarkBeforeSaid : Prop := fnExactLandmarkBeforeRow.holds Try.pinned (OpenSpec.ofChange fnExactLandmarkBeforeSpec)

/-- ITS FALSE NEIGHBOUR: 'it returns false'. Refute it at one input. -/
def fnExactLandmarkBeforeWrong : ChangeSpec := { name := "fnExactLandmarkBefore", fn := fun _ => fun
  | [d1, d2] => { results := [.lit (.bool false)], args := [d1, d2] }
  | _ => none }
def FnExactLandmarkBeforeWrongFalsely : Prop := fnExactLandmarkBeforeRow.holds Try.pinned (OpenSpec.ofChange fnExactLandmarkBeforeWrong)

/-- 'laws.FnExactGetCode': WHATEVER THE INPUT: true; the input reads as it did. -/
def fnExactGetCodeSpec : ChangeSpec := { name := "fnExactGetCode", fn := fun _ => fun
  | [d1, d2] => { results := [.lit (.bool true)], args := [d1, d2] }
  | _ => none }
def fnExactGetCodeRow : OpenClaim := { program := "ytbnepccneooemaa", sum := "3df9fbcc3ef41acd808240884b86289a5ddcb9a5ddcb765da2ab7fb27c173ca9", func := "loop.example/objectlinker/laws.FnExactGetCode", spec := "fnExactGetCode", apart := false }
def FnExactGetCodeSaid : Prop := fnExactGetCodeRow.holds Try.pinned (OpenSpec.ofChange fnExactGetCodeSpec)

/-- ITS FALSE NEIGHBOUR: 'it returns false'. Refute it at one input. -/
def fnExactGetCodeWrong : ChangeSpec := { name := "fnExactGetCode", fn := fun _ => fun
  | [d1, d2] => { results := [.lit (.bool false)], args := [d1, d2] }
  | _ => none }
def FnExactGetCodeWrongFalsely : Prop := fnExactGetCodeRow.holds Try.pinned (OpenSpec.ofChange fnExactGetCodeWrong)

/-- 'laws.FnExactPutCode': WHATEVER THE INPUT: true; the input reads as it did. -/
def fnExactPutCodeSpec : ChangeSpec := { name := "fnExactPutCode", fn := fun _ => fun
  | [d] => { results := [.lit (.bool true)], args := [d] }
  | _ => none }
def fnExactPutCodeRow : OpenClaim := { program := "ytbnepccneooemaa", sum := "3df9fbcc3ef41acd808240884b86289a5ddcb9a5ddcb765da2ab7fb27c173ca9", func := "loop.example/objectlinker/laws.FnExactPutCode", spec := "fnExactPutCode", apart := false }
def FnExactPutCodeSaid : Prop := fnExactPutCodeRow.holds Try.pinned (OpenSpec.ofChange fnExactPutCodeSpec)

/-- ITS FALSE NEIGHBOUR: 'it returns false'. Refute it at one input. -/
def fnExactPutCodeWrong : ChangeSpec := { name := "fnExactPutCode", fn := fun _ => fun
  | [d] => { results := [.lit (.bool false)], args := [d] }
  | _ => none }
def FnExactPutCodeWrongFalsely : Prop := fnExactPutCodeRow.holds Try.pinned (OpenSpec.ofChange fnExactPutCodeWrong)

/-- 'laws.FnExactUnwindStack': WHATEVER THE INPUT: true; the input reads as it did. -/
def fnExactUnwindStackSpec : ChangeSpec := { name := "fnExactUnwindStack", fn := fun _ => fun
  | [d1, d2, d3] => { results := [.lit (.bool true)], args := [d1, d2, d3] }
  | _ => none }
def fnExactUnwindStackRow : OpenClaim := { program := "ytbnepccneooemaa", sum := "3df9fbcc3ef41acd808240884b86289a5ddcb9a5ddcb765da2ab7fb27c173ca9", func := "loop.example/objectlinker/laws.FnExactUnwindStack", spec := "fnExactUnwindStack", apart := false }
def FnExactUnwindStackSaid : Prop := fnExactUnwindStackRow.holds Try.pinned (OpenSpec.ofChange fnExactUnwindStackSpec)

/-- ITS FALSE NEIGHBOUR: 'it returns false'. Refute it at one input. -/
def fnExactUnwindStackWrong : ChangeSpec := { name := "fnExactUnwindStack", fn := fun _ => fun
  | [d1, d2, d3] => { results := [.lit (.bool false)], args := [d1, d2, d3] }
  | _ => none }
def FnExactUnwindStackWrongFalsely : Prop := fnExactUnwindStackRow.holds Try.pinned (OpenSpec.ofChange fnExactUnwindStackWrong)

/-- 'laws.FnExactPutRows': WHATEVER THE INPUT: true; the input reads as it did. -/
def fnExactPutRowsSpec : ChangeSpec := { name := "fnExactPutRows", fn := fun _ => fun
  | [d] => { results := [.lit (.bool true)], args := [d] }
  | _ => none }
def fnExactPutRowsRow : OpenClaim := { program := "ytbnepccneooemaa", sum := "3df9fbcc3ef41acd808240884b86289a5ddcb9a5ddcb765da2ab7fb27c173ca9", func := "loop.example/objectlinker/laws.FnExactPutRows", spec := "fnExactPutRows", apart := false }
def FnExactPutRowsSaid : Prop := fnExactPutRowsRow.holds Try.pinned (OpenSpec.ofChange fnExactPutRowsSpec)

/-- ITS FALSE NEIGHBOUR: 'it returns false'. Refute it at one input. -/
def fnExactPutRowsWrong : ChangeSpec := { name := "fnExactPutRows", fn := fun _ => fun
  | [d] => { results := [.lit (.bool false)], args := [d] }
  | _ => none }
def FnExactPutRowsWrongFalsely : Prop := fnExactPutRowsRow.holds Try.pinned (OpenSpec.ofChange fnExactPutRowsWrong)

/-- 'laws.FnExactGetRows': WHATEVER THE INPUT: true; the input reads as it did. -/
def fnExactGetRowsSpec : ChangeSpec := { name := "fnExactGetRows", fn := fun _ => fun
  | [d] => { results := [.lit (.bool true)], args := [d] }
  | _ => none }
def fnExactGetRowsRow : OpenClaim := { program := "ytbnepccneooemaa", sum := "3df9fbcc3ef41acd808240884b86289a5ddcb9a5ddcb765da2ab7fb27c173ca9", func := "loop.example/objectlinker/laws.FnExactGetRows", spec := "fnExactGetRows", apart := false }
def FnExactGetRowsSaid : Prop := fnExactGetRowsRow.holds Try.pinned (OpenSpec.ofChange fnExactGetRowsSpec)

/-- ITS FALSE NEIGHBOUR: 'it returns false'. Refute it at one input. -/
def fnExactGetRowsWrong : ChangeSpec := { name := "fnExactGetRows", fn := fun _ => fun
  | [d] => { results := [.lit (.bool false)], args := [d] }
  | _ => none }
def FnExactGetRowsWrongFalsely : Prop := fnExactGetRowsRow.holds Try.pinned (OpenSpec.ofChange fnExactGetRowsWrong)

/- THE SECOND FORM. 'bulk': how many values and letters a reading holds, each counted each time it is reached (what is shared counts as often as it is met; a slice's spare places count too). A statement '..UptoSaid' is the law's where the arguments, and the package variables that the reading takes, are together of bulk at most 1048576: NARROWER than '..Said'. Prove '..Said' where nothing that the law and all that it calls make is longer than what came in: it says more and counts as full. Else prove '..UptoSaid'. A law counts once. -/
mutual
def uptoBulk {H : Type} : DataW H → Nat
  | .lit (.string bytes) => bytes.length + 1
  | .lit _ => 1
  | .nil => 1
  | .ptr d => uptoBulk d + 1
  | .slice elems spare => uptoBulkAll elems + uptoBulkAll spare + 1
  | .agg parts => uptoBulkAll parts + 1
  | .iface _ d => uptoBulk d + 1
  | .map entries => uptoBulkEntries entries + 1
  | .held _ => 1
def uptoBulkAll {H : Type} : List (DataW H) → Nat
  | [] => 0
  | d :: r => uptoBulk d + uptoBulkAll r
def uptoBulkEntries {H : Type} : List (Lit × DataW H) → Nat
  | [] => 0
  | x :: r => uptoBulkEntry x + uptoBulkEntries r
def uptoBulkEntry {H : Type} : Lit × DataW H → Nat
  | (.string bytes, d) => bytes.length + uptoBulk d + 1
  | (_, d) => uptoBulk d + 1
 end
def uptoSmall : (H : Type) → List (DataW H) → Bool := fun _ ds => decide (uptoBulkAll ds ≤ 1048576)
def OpenSpec.upto (s : _root_.Go.ChangeSpec) : _root_.Go.OpenSpec := { _root_.Go.OpenSpec.ofChange s with cond := some uptoSmall }

/-- 'laws.FnExactRowsValid', WHERE WHAT IT READS IS OF BULK AT MOST 1048576: true; the input reads as it did. -/
def fnExactRowsValidUptoRow : OpenClaim := { program := "ytbnepccneooemaa", sum := "3df9fbcc3ef41acd808240884b86289a5ddcb9a5ddcb765da2ab7fb27c173ca9", func := "loop.example/objectlinker/laws.FnExactRowsValid", spec := "fnExactRowsValid", apart := false, narrowed := true }
def FnExactRowsValidUptoSaid : Prop := fnExactRowsValidUptoRow.holds Try.pinned (OpenSpec.upto fnExactRowsValidSpec)

/-- 'laws.FnExactGetVar', WHERE WHAT IT READS IS OF BULK AT MOST 1048576: true; the input reads as it did. -/
def fnExactGetVarUptoRow : OpenClaim := { program := "ytbnepccneooemaa", sum := "3df9fbcc3ef41acd808240884b86289a5ddcb9a5ddcb765da2ab7fb27c173ca9", func := "loop.example/objectlinker/laws.FnExactGetVar", spec := "fnExactGetVar", apart := false, narrowed := true }
def FnExactGetVarUptoSaid : Prop := fnExactGetVarUptoRow.holds Try.pinned (OpenSpec.upto fnExactGetVarSpec)

/-- 'laws.FnExactFramesValid', WHERE WHAT IT READS IS OF BULK AT MOST 1048576: true; the input reads as it did. -/
def fnExactFramesValidUptoRow : OpenClaim := { program := "ytbnepccneooemaa", sum := "3df9fbcc3ef41acd808240884b86289a5ddcb9a5ddcb765da2ab7fb27c173ca9", func := "loop.example/objectlinker/laws.FnExactFramesValid", spec := "fnExactFramesValid", apart := false, narrowed := true }
def FnExactFramesValidUptoSaid : Prop := fnExactFramesValidUptoRow.holds Try.pinned (OpenSpec.upto fnExactFramesValidSpec)

/-- 'laws.FnExactLineOf', WHERE WHAT IT READS IS OF BULK AT MOST 1048576: true; the input reads as it did. -/
def fnExactLineOfUptoRow : OpenClaim := { program := "ytbnepccneooemaa", sum := "3df9fbcc3ef41acd808240884b86289a5ddcb9a5ddcb765da2ab7fb27c173ca9", func := "loop.example/objectlinker/laws.FnExactLineOf", spec := "fnExactLineOf", apart := false, narrowed := true }
def FnExactLineOfUptoSaid : Prop := fnExactLineOfUptoRow.holds Try.pinned (OpenSpec.upto fnExactLineOfSpec)

/-- 'laws.FnExactFrameOf', WHERE WHAT IT READS IS OF BULK AT MOST 1048576: true; the input reads as it did. -/
def fnExactFrameOfUptoRow : OpenClaim := { program := "ytbnepccneooemaa", sum := "3df9fbcc3ef41acd808240884b86289a5ddcb9a5ddcb765da2ab7fb27c173ca9", func := "loop.example/objectlinker/laws.FnExactFrameOf", spec := "fnExactFrameOf", apart := false, narrowed := true }
def FnExactFrameOfUptoSaid : Prop := fnExactFrameOfUptoRow.holds Try.pinned (OpenSpec.upto fnExactFrameOfSpec)

/-- 'laws.FnExactMachineValid', WHERE WHAT IT READS IS OF BULK AT MOST 1048576: true; the input reads as it did. -/
def fnExactMachineValidUptoRow : OpenClaim := { program := "ytbnepccneooemaa", sum := "3df9fbcc3ef41acd808240884b86289a5ddcb9a5ddcb765da2ab7fb27c173ca9", func := "loop.example/objectlinker/laws.FnExactMachineValid", spec := "fnExactMachineValid", unfollowed := true, recurses := true, apart := false, narrowed := true }
def FnExactMachineValidUptoSaid : Prop := fnExactMachineValidUptoRow.holds Try.pinned (OpenSpec.upto fnExactMachineValidSpec)

/-- 'laws.FnExactLandmarkBefore', WHERE WHAT IT READS IS OF BULK AT MOST 1048576: true; the input reads as it did. -/
def fnExactLandmarkBeforeUptoRow : OpenClaim := { program := "ytbnepccneooemaa", sum := "3df9fbcc3ef41acd808240884b86289a5ddcb9a5ddcb765da2ab7fb27c173ca9", func := "loop.example/objectlinker/laws.FnExactLandmarkBefore", spec := "fnExactLandmarkBefore", apart := false, narrowed := true }
def FnExactLandmarkBeforeUptoSaid : Prop := fnExactLandmarkBeforeUptoRow.holds Try.pinned (OpenSpec.upto fnExactLandmarkBeforeSpec)

/-- 'laws.FnExactGetCode', WHERE WHAT IT READS IS OF BULK AT MOST 1048576: true; the input reads as it did. -/
def fnExactGetCodeUptoRow : OpenClaim := { program := "ytbnepccneooemaa", sum := "3df9fbcc3ef41acd808240884b86289a5ddcb9a5ddcb765da2ab7fb27c173ca9", func := "loop.example/objectlinker/laws.FnExactGetCode", spec := "fnExactGetCode", apart := false, narrowed := true }
def FnExactGetCodeUptoSaid : Prop := fnExactGetCodeUptoRow.holds Try.pinned (OpenSpec.upto fnExactGetCodeSpec)

/-- 'laws.FnExactPutCode', WHERE WHAT IT READS IS OF BULK AT MOST 1048576: true; the input reads as it did. -/
def fnExactPutCodeUptoRow : OpenClaim := { program := "ytbnepccneooemaa", sum := "3df9fbcc3ef41acd808240884b86289a5ddcb9a5ddcb765da2ab7fb27c173ca9", func := "loop.example/objectlinker/laws.FnExactPutCode", spec := "fnExactPutCode", apart := false, narrowed := true }
def FnExactPutCodeUptoSaid : Prop := fnExactPutCodeUptoRow.holds Try.pinned (OpenSpec.upto fnExactPutCodeSpec)

/-- 'laws.FnExactUnwindStack', WHERE WHAT IT READS IS OF BULK AT MOST 1048576: true; the input reads as it did. -/
def fnExactUnwindStackUptoRow : OpenClaim := { program := "ytbnepccneooemaa", sum := "3df9fbcc3ef41acd808240884b86289a5ddcb9a5ddcb765da2ab7fb27c173ca9", func := "loop.example/objectlinker/laws.FnExactUnwindStack", spec := "fnExactUnwindStack", apart := false, narrowed := true }
def FnExactUnwindStackUptoSaid : Prop := fnExactUnwindStackUptoRow.holds Try.pinned (OpenSpec.upto fnExactUnwindStackSpec)

/-- 'laws.FnExactPutRows', WHERE WHAT IT READS IS OF BULK AT MOST 1048576: true; the input reads as it did. -/
def fnExactPutRowsUptoRow : OpenClaim := { program := "ytbnepccneooemaa", sum := "3df9fbcc3ef41acd808240884b86289a5ddcb9a5ddcb765da2ab7fb27c173ca9", func := "loop.example/objectlinker/laws.FnExactPutRows", spec := "fnExactPutRows", apart := false, narrowed := true }
def FnExactPutRowsUptoSaid : Prop := fnExactPutRowsUptoRow.holds Try.pinned (OpenSpec.upto fnExactPutRowsSpec)

/-- 'laws.FnExactGetRows', WHERE WHAT IT READS IS OF BULK AT MOST 1048576: true; the input reads as it did. -/
def fnExactGetRowsUptoRow : OpenClaim := { program := "ytbnepccneooemaa", sum := "3df9fbcc3ef41acd808240884b86289a5ddcb9a5ddcb765da2ab7fb27c173ca9", func := "loop.example/objectlinker/laws.FnExactGetRows", spec := "fnExactGetRows", apart := false, narrowed := true }
def FnExactGetRowsUptoSaid : Prop := fnExactGetRowsUptoRow.holds Try.pinned (OpenSpec.upto fnExactGetRowsSpec)

end Rows
end Go.Proofs.Ytbnepccneooemaa
