/-
  No cell of these rows narrows 'for every input' (looked for: loops, veiled, ifaces, maps, wideKeys, modest, calm, conditions, laid).
  DERIVED. THE GIVEN ROWS OF THIS SEAT. 6 by the template 'for every input the law returns true; each argument reads behind the call as it read before'; 0 by the template 'total and deterministic' (their statements: YthapbpohclddiaaTotals.lean).
  GIVEN WITH THE SEED: the statements are not yours to turn. If you find one false, say at which input.
  Laid BY PROGRAM, IN A SANDBOX (cutbox-rows.mjs): the forced cells as the released guide's own fill.sh prints them over the translation 33fe4e977f583fe3… (all of the seat's roots in one cut). By AI agents, Wed Nov 11 2026. No macro, syntax, notation, axiom, sorry.
-/
import Derived.Test.YthapbpohclddiaaChecked
import GoSem.Claim
import GoSem.ClaimJoined
import GoSem.ClaimMapViews
import Derived.JoinedTies
import Derived.KernelRfl
namespace Go.Proofs.Ythapbpohclddiaa
/- THE CELL 'sum', in the pinned program and in every row, IS THE sha256 OF THE DUMP (.gsa) THAT YthapbpohclddiaaProg.lean LOADS. Nothing in Lean hashes anything: it is a label: what it is worth is what the hold of that sum in a sandbox is worth. -/
noncomputable def Try.pinned : Pinned := { name := "ythapbpohclddiaa", sum := "33fe4e977f583fe38c9af053b57d2af6938d50ad720ba66c93e0f2a737f30f12", checked := Try.checked }
namespace Rows
def none {H : Type} : Left H := { results := [], args := [] }

/-- 'laws.FnExactZigZag': WHATEVER THE INPUT: true; the input reads as it did. -/
def fnExactZigZagSpec : ChangeSpec := { name := "fnExactZigZag", fn := fun _ => fun
  | [d] => { results := [.lit (.bool true)], args := [d] }
  | _ => none }
def fnExactZigZagRow : OpenClaim := { program := "ythapbpohclddiaa", sum := "33fe4e977f583fe38c9af053b57d2af6938d50ad720ba66c93e0f2a737f30f12", func := "loop.example/objectlinker/laws.FnExactZigZag", spec := "fnExactZigZag", apart := false }
def FnExactZigZagSaid : Prop := fnExactZigZagRow.holds Try.pinned (OpenSpec.ofChange fnExactZigZagSpec)

/-- ITS FALSE NEIGHBOUR: 'it returns false'. Refute it at one input. -/
def fnExactZigZagWrong : ChangeSpec := { name := "fnExactZigZag", fn := fun _ => fun
  | [d] => { results := [.lit (.bool false)], args := [d] }
  | _ => none }
def FnExactZigZagWrongFalsely : Prop := fnExactZigZagRow.holds Try.pinned (OpenSpec.ofChange fnExactZigZagWrong)

/-- 'laws.FnExactCodeValid': WHATEVER THE INPUT: true; the input reads as it did. -/
def fnExactCodeValidSpec : ChangeSpec := { name := "fnExactCodeValid", fn := fun _ => fun
  | [d] => { results := [.lit (.bool true)], args := [d] }
  | _ => none }
def fnExactCodeValidRow : OpenClaim := { program := "ythapbpohclddiaa", sum := "33fe4e977f583fe38c9af053b57d2af6938d50ad720ba66c93e0f2a737f30f12", func := "loop.example/objectlinker/laws.FnExactCodeValid", spec := "fnExactCodeValid", apart := false }
def FnExactCodeValidSaid : Prop := fnExactCodeValidRow.holds Try.pinned (OpenSpec.ofChange fnExactCodeValidSpec)

/-- ITS FALSE NEIGHBOUR: 'it returns false'. Refute it at one input. -/
def fnExactCodeValidWrong : ChangeSpec := { name := "fnExactCodeValid", fn := fun _ => fun
  | [d] => { results := [.lit (.bool false)], args := [d] }
  | _ => none }
def FnExactCodeValidWrongFalsely : Prop := fnExactCodeValidRow.holds Try.pinned (OpenSpec.ofChange fnExactCodeValidWrong)

/-- 'laws.FnExactVarSize': WHATEVER THE INPUT: true; the input reads as it did. -/
def fnExactVarSizeSpec : ChangeSpec := { name := "fnExactVarSize", fn := fun _ => fun
  | [d] => { results := [.lit (.bool true)], args := [d] }
  | _ => none }
def fnExactVarSizeRow : OpenClaim := { program := "ythapbpohclddiaa", sum := "33fe4e977f583fe38c9af053b57d2af6938d50ad720ba66c93e0f2a737f30f12", func := "loop.example/objectlinker/laws.FnExactVarSize", spec := "fnExactVarSize", apart := false }
def FnExactVarSizeSaid : Prop := fnExactVarSizeRow.holds Try.pinned (OpenSpec.ofChange fnExactVarSizeSpec)

/-- ITS FALSE NEIGHBOUR: 'it returns false'. Refute it at one input. -/
def fnExactVarSizeWrong : ChangeSpec := { name := "fnExactVarSize", fn := fun _ => fun
  | [d] => { results := [.lit (.bool false)], args := [d] }
  | _ => none }
def FnExactVarSizeWrongFalsely : Prop := fnExactVarSizeRow.holds Try.pinned (OpenSpec.ofChange fnExactVarSizeWrong)

/-- 'laws.FnExactUnZigZag': WHATEVER THE INPUT: true; the input reads as it did. -/
def fnExactUnZigZagSpec : ChangeSpec := { name := "fnExactUnZigZag", fn := fun _ => fun
  | [d] => { results := [.lit (.bool true)], args := [d] }
  | _ => none }
def fnExactUnZigZagRow : OpenClaim := { program := "ythapbpohclddiaa", sum := "33fe4e977f583fe38c9af053b57d2af6938d50ad720ba66c93e0f2a737f30f12", func := "loop.example/objectlinker/laws.FnExactUnZigZag", spec := "fnExactUnZigZag", apart := false }
def FnExactUnZigZagSaid : Prop := fnExactUnZigZagRow.holds Try.pinned (OpenSpec.ofChange fnExactUnZigZagSpec)

/-- ITS FALSE NEIGHBOUR: 'it returns false'. Refute it at one input. -/
def fnExactUnZigZagWrong : ChangeSpec := { name := "fnExactUnZigZag", fn := fun _ => fun
  | [d] => { results := [.lit (.bool false)], args := [d] }
  | _ => none }
def FnExactUnZigZagWrongFalsely : Prop := fnExactUnZigZagRow.holds Try.pinned (OpenSpec.ofChange fnExactUnZigZagWrong)

/-- 'laws.FnExactSumOf': WHATEVER THE INPUT: true; the input reads as it did. -/
def fnExactSumOfSpec : ChangeSpec := { name := "fnExactSumOf", fn := fun _ => fun
  | [d] => { results := [.lit (.bool true)], args := [d] }
  | _ => none }
def fnExactSumOfRow : OpenClaim := { program := "ythapbpohclddiaa", sum := "33fe4e977f583fe38c9af053b57d2af6938d50ad720ba66c93e0f2a737f30f12", func := "loop.example/objectlinker/laws.FnExactSumOf", spec := "fnExactSumOf", apart := false }
def FnExactSumOfSaid : Prop := fnExactSumOfRow.holds Try.pinned (OpenSpec.ofChange fnExactSumOfSpec)

/-- ITS FALSE NEIGHBOUR: 'it returns false'. Refute it at one input. -/
def fnExactSumOfWrong : ChangeSpec := { name := "fnExactSumOf", fn := fun _ => fun
  | [d] => { results := [.lit (.bool false)], args := [d] }
  | _ => none }
def FnExactSumOfWrongFalsely : Prop := fnExactSumOfRow.holds Try.pinned (OpenSpec.ofChange fnExactSumOfWrong)

/-- 'laws.FnExactPutVar': WHATEVER THE INPUT: true; the input reads as it did. -/
def fnExactPutVarSpec : ChangeSpec := { name := "fnExactPutVar", fn := fun _ => fun
  | [d] => { results := [.lit (.bool true)], args := [d] }
  | _ => none }
def fnExactPutVarRow : OpenClaim := { program := "ythapbpohclddiaa", sum := "33fe4e977f583fe38c9af053b57d2af6938d50ad720ba66c93e0f2a737f30f12", func := "loop.example/objectlinker/laws.FnExactPutVar", spec := "fnExactPutVar", apart := false }
def FnExactPutVarSaid : Prop := fnExactPutVarRow.holds Try.pinned (OpenSpec.ofChange fnExactPutVarSpec)

/-- ITS FALSE NEIGHBOUR: 'it returns false'. Refute it at one input. -/
def fnExactPutVarWrong : ChangeSpec := { name := "fnExactPutVar", fn := fun _ => fun
  | [d] => { results := [.lit (.bool false)], args := [d] }
  | _ => none }
def FnExactPutVarWrongFalsely : Prop := fnExactPutVarRow.holds Try.pinned (OpenSpec.ofChange fnExactPutVarWrong)

/- THE SECOND FORM. 'bulk': how many values and letters a reading holds, each counted each time it is reached (what is shared counts as often as it is met; a slice's spare places count too). A statement '..UptoSaid' is the law's where the arguments, and the package variables that the reading takes, are together of bulk at most 1048576: NARROWER than '..Said'. Prove '..Said' where nothing that the law and all that it calls make is longer than what came in: it says more and counts as full. Else prove '..UptoSaid'. A law counts once. -/
mutual
def uptoBulk {H : Type} : DataW H → Nat
  | .lit (.string bytes) => bytes.length + 1
  | .lit _ => 1
  | .nil => 1
  | .ptr d => uptoBulk d + 1
  | .slice elems spare => uptoBulkAll elems + uptoBulkAll spare + 1
  | .agg parts => uptoBulkAll parts + 1
  | .iface _ d => uptoBulk d + 1
  | .map entries => uptoBulkEntries entries + 1
  | .held _ => 1
def uptoBulkAll {H : Type} : List (DataW H) → Nat
  | [] => 0
  | d :: r => uptoBulk d + uptoBulkAll r
def uptoBulkEntries {H : Type} : List (Lit × DataW H) → Nat
  | [] => 0
  | x :: r => uptoBulkEntry x + uptoBulkEntries r
def uptoBulkEntry {H : Type} : Lit × DataW H → Nat
  | (.string bytes, d) => bytes.length + uptoBulk d + 1
  | (_, d) => uptoBulk d + 1
 end
def uptoSmall : (H : Type) → List (DataW H) → Bool := fun _ ds => decide (uptoBulkAll ds ≤ 1048576)
def OpenSpec.upto (s : _root_.Go.ChangeSpec) : _root_.Go.OpenSpec := { _root_.Go.OpenSpec.ofChange s with cond := some uptoSmall }

/-- 'laws.FnExactZigZag', WHERE WHAT IT READS IS OF BULK AT MOST 1048576: true; the input reads as it did. -/
def fnExactZigZagUptoRow : OpenClaim := { program := "ythapbpohclddiaa", sum := "33fe4e977f583fe38c9af053b57d2af6938d50ad720ba66c93e0f2a737f30f12", func := "loop.example/objectlinker/laws.FnExactZigZag", spec := "fnExactZigZag", apart := false, narrowed := true }
def FnExactZigZagUptoSaid : Prop := fnExactZigZagUptoRow.holds Try.pinned (OpenSpec.upto fnExactZigZagSpec)

/-- 'laws.FnExactCodeValid', WHERE WHAT IT READS IS OF BULK AT MOST 1048576: true; the input reads as it did. -/
def fnExactCodeValidUptoRow : OpenClaim := { program := "ythapbpohclddiaa", sum := "33fe4e977f583fe38c9af053b57d2af6938d50ad720ba66c93e0f2a737f30f12", func := "loop.example/objectlinker/laws.FnExactCodeValid", spec := "fnExactCodeValid", apart := false, narrowed := true }
def FnExactCodeValidUptoSaid : Prop := fnExactCodeValidUptoRow.holds Try.pinned (OpenSpec.upto fnExactCodeValidSpec)

/-- 'laws.FnExactVarSize', WHERE WHAT IT READS IS OF BULK AT MOST 1048576: true; the input reads as it did. -/
def fnExactVarSizeUptoRow : OpenClaim := { program := "ythapbpohclddiaa", sum := "33fe4e977f583fe38c9af053b57d2af6938d50ad720ba66c93e0f2a737f30f12", func := "loop.example/objectlinker/laws.FnExactVarSize", spec := "fnExactVarSize", apart := false, narrowed := true }
def FnExactVarSizeUptoSaid : Prop := fnExactVarSizeUptoRow.holds Try.pinned (OpenSpec.upto fnExactVarSizeSpec)

/-- 'laws.FnExactUnZigZag', WHERE WHAT IT READS IS OF BULK AT MOST 1048576: true; the input reads as it did. -/
def fnExactUnZigZagUptoRow : OpenClaim := { program := "ythapbpohclddiaa", sum := "33fe4e977f583fe38c9af053b57d2af6938d50ad720ba66c93e0f2a737f30f12", func := "loop.example/objectlinker/laws.FnExactUnZigZag", spec := "fnExactUnZigZag", apart := false, narrowed := true }
def FnExactUnZigZagUptoSaid : Prop := fnExactUnZigZagUptoRow.holds Try.pinned (OpenSpec.upto fnExactUnZigZagSpec)

/-- 'laws.FnExactSumOf', WHERE WHAT IT READS IS OF BULK AT MOST 1048576: true; the input reads as it did. -/
def fnExactSumOfUptoRow : OpenClaim := { program := "ythapbpohclddiaa", sum := "33fe4e977f583fe38c9af053b57d2af6938d50ad720ba66c93e0f2a737f30f12", func := "loop.example/objectlinker/laws.FnExactSumOf", spec := "fnExactSumOf", apart := false, narrowed := true }
def FnExactSumOfUptoSaid : Prop := fnExactSumOfUptoRow.holds Try.pinned (OpenSpec.upto fnExactSumOfSpec)

/-- 'laws.FnExactPutVar', WHERE WHAT IT READS IS OF BULK AT MOST 1048576: true; the input reads as it did. -/
def fnExactPutVarUptoRow : OpenClaim := { program := "ythapbpohclddiaa", sum := "33fe4e977f583fe38c9af053b57d2af6938d50ad720ba66c93e0f2a737f30f12", func := "loop.example/objectlinker/laws.FnExactPutVar", spec := "fnExactPutVar", apart := false, narrowed := true }
def FnExactPutVarUptoSaid : Prop := fnExactPutVarUptoRow.holds Try.pinned (OpenSpec.upto fnExactPutVarSpec)

end Rows
end Go.Proofs.Ythapbpohclddiaa
