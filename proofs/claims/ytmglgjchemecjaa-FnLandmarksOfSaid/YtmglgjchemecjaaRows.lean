/-
  No cell of these rows narrows 'for every input' (looked for: loops, veiled, ifaces, maps, wideKeys, modest, calm, conditions, laid).
  DERIVED. THE GIVEN ROWS OF THIS SEAT. 7 by the template 'for every input the law returns true; each argument reads behind the call as it read before'; 0 by the template 'total and deterministic' (their statements: YtmglgjchemecjaaTotals.lean).
  GIVEN WITH THE SEED: the statements are not yours to turn. If you find one false, say at which input.
  Laid BY PROGRAM, IN A SANDBOX (cutbox-rows.mjs): the forced cells as the released guide's own fill.sh prints them over the translation a3278f1b1aa39517… (all of the seat's roots in one cut). By AI agents, Wed Nov 11 2026. No macro, syntax, notation, axiom, sorry.
-/
import Derived.Test.YtmglgjchemecjaaChecked
import GoSem.Claim
import GoSem.ClaimJoined
import GoSem.ClaimMapViews
import Derived.JoinedTies
import Derived.KernelRfl
namespace Go.Proofs.Ytmglgjchemecjaa
/- THE CELL 'sum', in the pinned program and in every row, IS THE sha256 OF THE DUMP (.gsa) THAT YtmglgjchemecjaaProg.lean LOADS. Nothing in Lean hashes anything: it is a label: what it is worth is what the hold of that sum in a sandbox is worth. -/
noncomputable def Try.pinned : Pinned := { name := "ytmglgjchemecjaa", sum := "a3278f1b1aa39517b52670d079620b112b87e232dffc33979136bd7bf105b5c5", checked := Try.checked }
namespace Rows
def none {H : Type} : Left H := { results := [], args := [] }

/-- 'laws.FnWarningsOf': WHATEVER THE INPUT: true; the input reads as it did. -/
def fnWarningsOfSpec : ChangeSpec := { name := "fnWarningsOf", fn := fun _ => fun
  | [d] => { results := [.lit (.bool true)], args := [d] }
  | _ => none }
def fnWarningsOfRow : OpenClaim := { program := "ytmglgjchemecjaa", sum := "a3278f1b1aa39517b52670d079620b112b87e232dffc33979136bd7bf105b5c5", func := "loop.example/objectlinker/laws.FnWarningsOf", spec := "fnWarningsOf", unfollowed := true, recurses := true, apart := false }
def FnWarningsOfSaid : Prop := fnWarningsOfRow.holds Try.pinned (OpenSpec.ofChange fnWarningsOfSpec)

/-- ITS FALSE NEIGHBOUR: 'it returns false'. Refute it at one input. -/
def fnWarningsOfWrong : ChangeSpec := { name := "fnWarningsOf", fn := fun _ => fun
  | [d] => { results := [.lit (.bool false)], args := [d] }
  | _ => none }
def FnWarningsOfWrongFalsely : Prop := fnWarningsOfRow.holds Try.pinned (OpenSpec.ofChange fnWarningsOfWrong)

/-- 'laws.FnExactWarningsOf': WHATEVER THE INPUT: true; the input reads as it did. -/
def fnExactWarningsOfSpec : ChangeSpec := { name := "fnExactWarningsOf", fn := fun _ => fun
  | [d] => { results := [.lit (.bool true)], args := [d] }
  | _ => none }
def fnExactWarningsOfRow : OpenClaim := { program := "ytmglgjchemecjaa", sum := "a3278f1b1aa39517b52670d079620b112b87e232dffc33979136bd7bf105b5c5", func := "loop.example/objectlinker/laws.FnExactWarningsOf", spec := "fnExactWarningsOf", unfollowed := true, recurses := true, apart := false }
def FnExactWarningsOfSaid : Prop := fnExactWarningsOfRow.holds Try.pinned (OpenSpec.ofChange fnExactWarningsOfSpec)

/-- ITS FALSE NEIGHBOUR: 'it returns false'. Refute it at one input. -/
def fnExactWarningsOfWrong : ChangeSpec := { name := "fnExactWarningsOf", fn := fun _ => fun
  | [d] => { results := [.lit (.bool false)], args := [d] }
  | _ => none }
def FnExactWarningsOfWrongFalsely : Prop := fnExactWarningsOfRow.holds Try.pinned (OpenSpec.ofChange fnExactWarningsOfWrong)

/-- 'laws.FnExactClearFixups': WHATEVER THE INPUT: true; the input reads as it did. -/
def fnExactClearFixupsSpec : ChangeSpec := { name := "fnExactClearFixups", fn := fun _ => fun
  | [d] => { results := [.lit (.bool true)], args := [d] }
  | _ => none }
def fnExactClearFixupsRow : OpenClaim := { program := "ytmglgjchemecjaa", sum := "a3278f1b1aa39517b52670d079620b112b87e232dffc33979136bd7bf105b5c5", func := "loop.example/objectlinker/laws.FnExactClearFixups", spec := "fnExactClearFixups", unfollowed := true, recurses := true, apart := false }
def FnExactClearFixupsSaid : Prop := fnExactClearFixupsRow.holds Try.pinned (OpenSpec.ofChange fnExactClearFixupsSpec)

/-- ITS FALSE NEIGHBOUR: 'it returns false'. Refute it at one input. -/
def fnExactClearFixupsWrong : ChangeSpec := { name := "fnExactClearFixups", fn := fun _ => fun
  | [d] => { results := [.lit (.bool false)], args := [d] }
  | _ => none }
def FnExactClearFixupsWrongFalsely : Prop := fnExactClearFixupsRow.holds Try.pinned (OpenSpec.ofChange fnExactClearFixupsWrong)

/-- 'laws.FnExactSortSymbols': WHATEVER THE INPUT: true; the input reads as it did. -/
def fnExactSortSymbolsSpec : ChangeSpec := { name := "fnExactSortSymbols", fn := fun _ => fun
  | [d] => { results := [.lit (.bool true)], args := [d] }
  | _ => none }
def fnExactSortSymbolsRow : OpenClaim := { program := "ytmglgjchemecjaa", sum := "a3278f1b1aa39517b52670d079620b112b87e232dffc33979136bd7bf105b5c5", func := "loop.example/objectlinker/laws.FnExactSortSymbols", spec := "fnExactSortSymbols", unfollowed := true, recurses := true, apart := false }
def FnExactSortSymbolsSaid : Prop := fnExactSortSymbolsRow.holds Try.pinned (OpenSpec.ofChange fnExactSortSymbolsSpec)

/-- ITS FALSE NEIGHBOUR: 'it returns false'. Refute it at one input. -/
def fnExactSortSymbolsWrong : ChangeSpec := { name := "fnExactSortSymbols", fn := fun _ => fun
  | [d] => { results := [.lit (.bool false)], args := [d] }
  | _ => none }
def FnExactSortSymbolsWrongFalsely : Prop := fnExactSortSymbolsRow.holds Try.pinned (OpenSpec.ofChange fnExactSortSymbolsWrong)

/-- 'laws.FnClearFixups': WHATEVER THE INPUT: true; the input reads as it did. -/
def fnClearFixupsSpec : ChangeSpec := { name := "fnClearFixups", fn := fun _ => fun
  | [d] => { results := [.lit (.bool true)], args := [d] }
  | _ => none }
def fnClearFixupsRow : OpenClaim := { program := "ytmglgjchemecjaa", sum := "a3278f1b1aa39517b52670d079620b112b87e232dffc33979136bd7bf105b5c5", func := "loop.example/objectlinker/laws.FnClearFixups", spec := "fnClearFixups", unfollowed := true, recurses := true, apart := false }
def FnClearFixupsSaid : Prop := fnClearFixupsRow.holds Try.pinned (OpenSpec.ofChange fnClearFixupsSpec)

/-- ITS FALSE NEIGHBOUR: 'it returns false'. Refute it at one input. -/
def fnClearFixupsWrong : ChangeSpec := { name := "fnClearFixups", fn := fun _ => fun
  | [d] => { results := [.lit (.bool false)], args := [d] }
  | _ => none }
def FnClearFixupsWrongFalsely : Prop := fnClearFixupsRow.holds Try.pinned (OpenSpec.ofChange fnClearFixupsWrong)

/-- 'laws.FnSameObject': WHATEVER THE INPUT: true; the input reads as it did. -/
def fnSameObjectSpec : ChangeSpec := { name := "fnSameObject", fn := fun _ => fun
  | [d] => { results := [.lit (.bool true)], args := [d] }
  | _ => none }
def fnSameObjectRow : OpenClaim := { program := "ytmglgjchemecjaa", sum := "a3278f1b1aa39517b52670d079620b112b87e232dffc33979136bd7bf105b5c5", func := "loop.example/objectlinker/laws.FnSameObject", spec := "fnSameObject", inPlace := ["internal/bytealg.IndexByte"], unfollowed := true, recurses := true, apart := false }
def FnSameObjectSaid : Prop := fnSameObjectRow.holds Try.pinned (OpenSpec.ofChange fnSameObjectSpec)

/-- ITS FALSE NEIGHBOUR: 'it returns false'. Refute it at one input. -/
def fnSameObjectWrong : ChangeSpec := { name := "fnSameObject", fn := fun _ => fun
  | [d] => { results := [.lit (.bool false)], args := [d] }
  | _ => none }
def FnSameObjectWrongFalsely : Prop := fnSameObjectRow.holds Try.pinned (OpenSpec.ofChange fnSameObjectWrong)

/-- 'laws.FnLandmarksOf': WHATEVER THE INPUT: true; the input reads as it did. -/
def fnLandmarksOfSpec : ChangeSpec := { name := "fnLandmarksOf", fn := fun _ => fun
  | [d] => { results := [.lit (.bool true)], args := [d] }
  | _ => none }
def fnLandmarksOfRow : OpenClaim := { program := "ytmglgjchemecjaa", sum := "a3278f1b1aa39517b52670d079620b112b87e232dffc33979136bd7bf105b5c5", func := "loop.example/objectlinker/laws.FnLandmarksOf", spec := "fnLandmarksOf", unfollowed := true, recurses := true, apart := false }
def FnLandmarksOfSaid : Prop := fnLandmarksOfRow.holds Try.pinned (OpenSpec.ofChange fnLandmarksOfSpec)

/-- ITS FALSE NEIGHBOUR: 'it returns false'. Refute it at one input. -/
def fnLandmarksOfWrong : ChangeSpec := { name := "fnLandmarksOf", fn := fun _ => fun
  | [d] => { results := [.lit (.bool false)], args := [d] }
  | _ => none }
def FnLandmarksOfWrongFalsely : Prop := fnLandmarksOfRow.holds Try.pinned (OpenSpec.ofChange fnLandmarksOfWrong)

/- THE SECOND FORM. 'bulk': how many values and letters a reading holds, each counted each time it is reached (what is shared counts as often as it is met; a slice's spare places count too). A statement '..UptoSaid' is the law's where the arguments, and the package variables that the reading takes, are together of bulk at most 1048576: NARROWER than '..Said'. Prove '..Said' where nothing that the law and all that it calls make is longer than what came in: it says more and counts as full. Else prove '..UptoSaid'. A law counts once. -/
mutual
def uptoBulk {H : Type} : DataW H → Nat
  | .lit (.string bytes) => bytes.length + 1
  | .lit _ => 1
  | .nil => 1
  | .ptr d => uptoBulk d + 1
  | .slice elems spare => uptoBulkAll elems + uptoBulkAll spare + 1
  | .agg parts => uptoBulkAll parts + 1
  | .iface _ d => uptoBulk d + 1
  | .map entries => uptoBulkEntries entries + 1
  | .held _ => 1
def uptoBulkAll {H : Type} : List (DataW H) → Nat
  | [] => 0
  | d :: r => uptoBulk d + uptoBulkAll r
def uptoBulkEntries {H : Type} : List (Lit × DataW H) → Nat
  | [] => 0
  | x :: r => uptoBulkEntry x + uptoBulkEntries r
def uptoBulkEntry {H : Type} : Lit × DataW H → Nat
  | (.string bytes, d) => bytes.length + uptoBulk d + 1
  | (_, d) => uptoBulk d + 1
 end
def uptoSmall : (H : Type) → List (DataW H) → Bool := fun _ ds => decide (uptoBulkAll ds ≤ 1048576)
def OpenSpec.upto (s : _root_.Go.ChangeSpec) : _root_.Go.OpenSpec := { _root_.Go.OpenSpec.ofChange s with cond := some uptoSmall }

/-- 'laws.FnWarningsOf', WHERE WHAT IT READS IS OF BULK AT MOST 1048576: true; the input reads as it did. -/
def fnWarningsOfUptoRow : OpenClaim := { program := "ytmglgjchemecjaa", sum := "a3278f1b1aa39517b52670d079620b112b87e232dffc33979136bd7bf105b5c5", func := "loop.example/objectlinker/laws.FnWarningsOf", spec := "fnWarningsOf", unfollowed := true, recurses := true, apart := false, narrowed := true }
def FnWarningsOfUptoSaid : Prop := fnWarningsOfUptoRow.holds Try.pinned (OpenSpec.upto fnWarningsOfSpec)

/-- 'laws.FnExactWarningsOf', WHERE WHAT IT READS IS OF BULK AT MOST 1048576: true; the input reads as it did. -/
def fnExactWarningsOfUptoRow : OpenClaim := { program := "ytmglgjchemecjaa", sum := "a3278f1b1aa39517b52670d079620b112b87e232dffc33979136bd7bf105b5c5", func := "loop.example/objectlinker/laws.FnExactWarningsOf", spec := "fnExactWarningsOf", unfollowed := true, recurses := true, apart := false, narrowed := true }
def FnExactWarningsOfUptoSaid : Prop := fnExactWarningsOfUptoRow.holds Try.pinned (OpenSpec.upto fnExactWarningsOfSpec)

/-- 'laws.FnExactClearFixups', WHERE WHAT IT READS IS OF BULK AT MOST 1048576: true; the input reads as it did. -/
def fnExactClearFixupsUptoRow : OpenClaim := { program := "ytmglgjchemecjaa", sum := "a3278f1b1aa39517b52670d079620b112b87e232dffc33979136bd7bf105b5c5", func := "loop.example/objectlinker/laws.FnExactClearFixups", spec := "fnExactClearFixups", unfollowed := true, recurses := true, apart := false, narrowed := true }
def FnExactClearFixupsUptoSaid : Prop := fnExactClearFixupsUptoRow.holds Try.pinned (OpenSpec.upto fnExactClearFixupsSpec)

/-- 'laws.FnExactSortSymbols', WHERE WHAT IT READS IS OF BULK AT MOST 1048576: true; the input reads as it did. -/
def fnExactSortSymbolsUptoRow : OpenClaim := { program := "ytmglgjchemecjaa", sum := "a3278f1b1aa39517b52670d079620b112b87e232dffc33979136bd7bf105b5c5", func := "loop.example/objectlinker/laws.FnExactSortSymbols", spec := "fnExactSortSymbols", unfollowed := true, recurses := true, apart := false, narrowed := true }
def FnExactSortSymbolsUptoSaid : Prop := fnExactSortSymbolsUptoRow.holds Try.pinned (OpenSpec.upto fnExactSortSymbolsSpec)

/-- 'laws.FnClearFixups', WHERE WHAT IT READS IS OF BULK AT MOST 1048576: true; the input reads as it did. -/
def fnClearFixupsUptoRow : OpenClaim := { program := "ytmglgjchemecjaa", sum := "a3278f1b1aa39517b52670d079620b112b87e232dffc33979136bd7bf105b5c5", func := "loop.example/objectlinker/laws.FnClearFixups", spec := "fnClearFixups", unfollowed := true, recurses := true, apart := false, narrowed := true }
def FnClearFixupsUptoSaid : Prop := fnClearFixupsUptoRow.holds Try.pinned (OpenSpec.upto fnClearFixupsSpec)

/-- 'laws.FnSameObject', WHERE WHAT IT READS IS OF BULK AT MOST 1048576: true; the input reads as it did. -/
def fnSameObjectUptoRow : OpenClaim := { program := "ytmglgjchemecjaa", sum := "a3278f1b1aa39517b52670d079620b112b87e232dffc33979136bd7bf105b5c5", func := "loop.example/objectlinker/laws.FnSameObject", spec := "fnSameObject", inPlace := ["internal/bytealg.IndexByte"], unfollowed := true, recurses := true, apart := false, narrowed := true }
def FnSameObjectUptoSaid : Prop := fnSameObjectUptoRow.holds Try.pinned (OpenSpec.upto fnSameObjectSpec)

/-- 'laws.FnLandmarksOf', WHERE WHAT IT READS IS OF BULK AT MOST 1048576: true; the input reads as it did. -/
def fnLandmarksOfUptoRow : OpenClaim := { program := "ytmglgjchemecjaa", sum := "a3278f1b1aa39517b52670d079620b112b87e232dffc33979136bd7bf105b5c5", func := "loop.example/objectlinker/laws.FnLandmarksOf", spec := "fnLandmarksOf", unfollowed := true, recurses := true, apart := false, narrowed := true }
def FnLandmarksOfUptoSaid : Prop := fnLandmarksOfUptoRow.holds Try.pinned (OpenSpec.upto fnLandmarksOfSpec)

end Rows
end Go.Proofs.Ytmglgjchemecjaa
