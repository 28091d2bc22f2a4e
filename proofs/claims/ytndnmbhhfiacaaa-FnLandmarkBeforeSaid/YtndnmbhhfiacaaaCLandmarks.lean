/- Contracts of the laws' helpers on Landmark: the copy, the comparison of equal data, the marks. Written by a program. -/
import Derived.Test.YtndnmbhhfiacaaaBase
import Derived.Test.YtndnmbhhfiacaaaRows
import Derived.StillTailTactics
namespace Go.Proofs.Ytndnmbhhfiacaaa.CLandmarks
set_option maxRecDepth 200000
open Go.ChangeShapes Go.WideShapes Go.ChangeAt Go.RowKit Kit
theorem info : (Try.prog.info? 41).map (fun i => (i.zero, i.size, i.bytes)) = some (some (.agg #[.string ByteArray.empty, .int .i64 0]), 2, 24) := by kernel_rfl
abbrev D := ByteArray × Int
def landmarkC (r : D) : List Value := [.string r.1, .int .i64 r.2]
theorem landmarkC_len (r : D) : (landmarkC r).length = 2 := rfl
end Go.Proofs.Ytndnmbhhfiacaaa.CLandmarks
