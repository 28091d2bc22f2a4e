/-
  No cell of these rows narrows 'for every input' (looked for: loops, veiled, ifaces, maps, wideKeys, modest, calm, conditions, laid).
  DERIVED. THE GIVEN ROWS OF THIS SEAT. 3 by the template 'for every input the law returns true; each argument reads behind the call as it read before'; 0 by the template 'total and deterministic' (their statements: YtmglgjchemecjaaGreatTotals.lean).
  GIVEN WITH THE SEED: the statements are not yours to turn. If you find one false, say at which input.
  Laid BY PROGRAM, IN A SANDBOX (cutbox-rows.mjs): the forced cells as the released guide's own fill.sh prints them over the translation 07a03fe3364fad0c… (all of the seat's roots in one cut). By AI agents, Wed Nov 11 2026. No macro, syntax, notation, axiom, sorry.
-/
import Derived.Test.YtmglgjchemecjaaGreatChecked
import GoSem.Claim
import GoSem.ClaimJoined
import GoSem.ClaimMapViews
import Derived.JoinedTies
import Derived.KernelRfl
namespace Go.Proofs.YtmglgjchemecjaaGreat
/- THE CELL 'sum', in the pinned program and in every row, IS THE sha256 OF THE DUMP (.gsa) THAT YtmglgjchemecjaaGreatProg.lean LOADS. Nothing in Lean hashes anything: it is a label: what it is worth is what the hold of that sum in a sandbox is worth. -/
noncomputable def Tryz.pinned : Pinned := { name := "ytmglgjchemecjaagreat", sum := "07a03fe3364fad0ca7381aab5e0c126195519b283c5cc1c9373100ab43e7d56c", checked := Tryz.checked }
namespace Rows
def none {H : Type} : Left H := { results := [], args := [] }

/-- 'laws.FnExactSameObject': WHATEVER THE INPUT: true; the input reads as it did. -/
def fnExactSameObjectSpec : ChangeSpec := { name := "fnExactSameObject", fn := fun _ => fun
  | [d1, d2] => { results := [.lit (.bool true)], args := [d1, d2] }
  | _ => none }
def fnExactSameObjectRow : OpenClaim := { program := "ytmglgjchemecjaagreat", sum := "07a03fe3364fad0ca7381aab5e0c126195519b283c5cc1c9373100ab43e7d56c", func := "loop.example/objectlinker/laws.FnExactSameObject", spec := "fnExactSameObject", inPlace := ["internal/bytealg.IndexByte"], unfollowed := true, recurses := true, apart := false }
def FnExactSameObjectSaid : Prop := fnExactSameObjectRow.holds Tryz.pinned (OpenSpec.ofChange fnExactSameObjectSpec)

/-- ITS FALSE NEIGHBOUR: 'it returns false'. Refute it at one input. -/
def fnExactSameObjectWrong : ChangeSpec := { name := "fnExactSameObject", fn := fun _ => fun
  | [d1, d2] => { results := [.lit (.bool false)], args := [d1, d2] }
  | _ => none }
def FnExactSameObjectWrongFalsely : Prop := fnExactSameObjectRow.holds Tryz.pinned (OpenSpec.ofChange fnExactSameObjectWrong)

/-- 'laws.FnSortSymbols': WHATEVER THE INPUT: true; the input reads as it did. -/
def fnSortSymbolsSpec : ChangeSpec := { name := "fnSortSymbols", fn := fun _ => fun
  | [d] => { results := [.lit (.bool true)], args := [d] }
  | _ => none }
def fnSortSymbolsRow : OpenClaim := { program := "ytmglgjchemecjaagreat", sum := "07a03fe3364fad0ca7381aab5e0c126195519b283c5cc1c9373100ab43e7d56c", func := "loop.example/objectlinker/laws.FnSortSymbols", spec := "fnSortSymbols", unfollowed := true, recurses := true, apart := false }
def FnSortSymbolsSaid : Prop := fnSortSymbolsRow.holds Tryz.pinned (OpenSpec.ofChange fnSortSymbolsSpec)

/-- ITS FALSE NEIGHBOUR: 'it returns false'. Refute it at one input. -/
def fnSortSymbolsWrong : ChangeSpec := { name := "fnSortSymbols", fn := fun _ => fun
  | [d] => { results := [.lit (.bool false)], args := [d] }
  | _ => none }
def FnSortSymbolsWrongFalsely : Prop := fnSortSymbolsRow.holds Tryz.pinned (OpenSpec.ofChange fnSortSymbolsWrong)

/-- 'laws.FnExactLandmarksOf': WHATEVER THE INPUT: true; the input reads as it did. -/
def fnExactLandmarksOfSpec : ChangeSpec := { name := "fnExactLandmarksOf", fn := fun _ => fun
  | [d1, d2] => { results := [.lit (.bool true)], args := [d1, d2] }
  | _ => none }
def fnExactLandmarksOfRow : OpenClaim := { program := "ytmglgjchemecjaagreat", sum := "07a03fe3364fad0ca7381aab5e0c126195519b283c5cc1c9373100ab43e7d56c", func := "loop.example/objectlinker/laws.FnExactLandmarksOf", spec := "fnExactLandmarksOf", unfollowed := true, recurses := true, apart := false }
def FnExactLandmarksOfSaid : Prop := fnExactLandmarksOfRow.holds Tryz.pinned (OpenSpec.ofChange fnExactLandmarksOfSpec)

/-- ITS FALSE NEIGHBOUR: 'it returns false'. Refute it at one input. -/
def fnExactLandmarksOfWrong : ChangeSpec := { name := "fnExactLandmarksOf", fn := fun _ => fun
  | [d1, d2] => { results := [.lit (.bool false)], args := [d1, d2] }
  | _ => none }
def FnExactLandmarksOfWrongFalsely : Prop := fnExactLandmarksOfRow.holds Tryz.pinned (OpenSpec.ofChange fnExactLandmarksOfWrong)

/- THE SECOND FORM. 'bulk': how many values and letters a reading holds, each counted each time it is reached (what is shared counts as often as it is met; a slice's spare places count too). A statement '..UptoSaid' is the law's where the arguments, and the package variables that the reading takes, are together of bulk at most 1048576: NARROWER than '..Said'. Prove '..Said' where nothing that the law and all that it calls make is longer than what came in: it says more and counts as full. Else prove '..UptoSaid'. A law counts once. -/
mutual
def uptoBulk {H : Type} : DataW H → Nat
  | .lit (.string bytes) => bytes.length + 1
  | .lit _ => 1
  | .nil => 1
  | .ptr d => uptoBulk d + 1
  | .slice elems spare => uptoBulkAll elems + uptoBulkAll spare + 1
  | .agg parts => uptoBulkAll parts + 1
  | .iface _ d => uptoBulk d + 1
  | .map entries => uptoBulkEntries entries + 1
  | .held _ => 1
def uptoBulkAll {H : Type} : List (DataW H) → Nat
  | [] => 0
  | d :: r => uptoBulk d + uptoBulkAll r
def uptoBulkEntries {H : Type} : List (Lit × DataW H) → Nat
  | [] => 0
  | x :: r => uptoBulkEntry x + uptoBulkEntries r
def uptoBulkEntry {H : Type} : Lit × DataW H → Nat
  | (.string bytes, d) => bytes.length + uptoBulk d + 1
  | (_, d) => uptoBulk d + 1
 end
def uptoSmall : (H : Type) → List (DataW H) → Bool := fun _ ds => decide (uptoBulkAll ds ≤ 1048576)
def OpenSpec.upto (s : _root_.Go.ChangeSpec) : _root_.Go.OpenSpec := { _root_.Go.OpenSpec.ofChange s with cond := some uptoSmall }

/-- 'laws.FnExactSameObject', WHERE WHAT IT READS IS OF BULK AT MOST 1048576: true; the input reads as it did. -/
def fnExactSameObjectUptoRow : OpenClaim := { program := "ytmglgjchemecjaagreat", sum := "07a03fe3364fad0ca7381aab5e0c126195519b283c5cc1c9373100ab43e7d56c", func := "loop.example/objectlinker/laws.FnExactSameObject", spec := "fnExactSameObject", inPlace := ["internal/bytealg.IndexByte"], unfollowed := true, recurses := true, apart := false, narrowed := true }
def FnExactSameObjectUptoSaid : Prop := fnExactSameObjectUptoRow.holds Tryz.pinned (OpenSpec.upto fnExactSameObjectSpec)

/-- 'laws.FnSortSymbols', WHERE WHAT IT READS IS OF BULK AT MOST 1048576: true; the input reads as it did. -/
def fnSortSymbolsUptoRow : OpenClaim := { program := "ytmglgjchemecjaagreat", sum := "07a03fe3364fad0ca7381aab5e0c126195519b283c5cc1c9373100ab43e7d56c", func := "loop.example/objectlinker/laws.FnSortSymbols", spec := "fnSortSymbols", unfollowed := true, recurses := true, apart := false, narrowed := true }
def FnSortSymbolsUptoSaid : Prop := fnSortSymbolsUptoRow.holds Tryz.pinned (OpenSpec.upto fnSortSymbolsSpec)

/-- 'laws.FnExactLandmarksOf', WHERE WHAT IT READS IS OF BULK AT MOST 1048576: true; the input reads as it did. -/
def fnExactLandmarksOfUptoRow : OpenClaim := { program := "ytmglgjchemecjaagreat", sum := "07a03fe3364fad0ca7381aab5e0c126195519b283c5cc1c9373100ab43e7d56c", func := "loop.example/objectlinker/laws.FnExactLandmarksOf", spec := "fnExactLandmarksOf", unfollowed := true, recurses := true, apart := false, narrowed := true }
def FnExactLandmarksOfUptoSaid : Prop := fnExactLandmarksOfUptoRow.holds Tryz.pinned (OpenSpec.upto fnExactLandmarksOfSpec)

end Rows
end Go.Proofs.YtmglgjchemecjaaGreat
