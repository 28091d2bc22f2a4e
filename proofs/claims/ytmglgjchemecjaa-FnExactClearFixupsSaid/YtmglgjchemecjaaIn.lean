/- What comes in: rows of cells that read as the laws' structs. -/
import Derived.Test.YtmglgjchemecjaaBase
import Derived.Test.YtmglgjchemecjaaRows
namespace Go.Proofs.Ytmglgjchemecjaa.In
set_option maxRecDepth 200000
open Go.ChangeShapes Go.WideShapes Go.ChangeAt Go.RowKit Kit
def I64 (x : Int) : Prop := -9223372036854775808 ≤ x ∧ x ≤ 9223372036854775807
def okRow (z : Int × Int) : Prop := I64 z.1 ∧ I64 z.2
def okFrame (z : Int × Int × Int) : Prop := I64 z.1 ∧ I64 z.2.1 ∧ I64 z.2.2
def okLandmark (z : ByteArray × Int) : Prop := z.1.size ≤ maxLen ∧ I64 z.2
end Go.Proofs.Ytmglgjchemecjaa.In
