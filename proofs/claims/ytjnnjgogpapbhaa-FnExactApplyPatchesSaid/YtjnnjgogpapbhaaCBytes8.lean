/- The element type of []byte. -/
import Derived.Test.YtjnnjgogpapbhaaBase
import Derived.Test.YtjnnjgogpapbhaaRows
namespace Go.Proofs.Ytjnnjgogpapbhaa.CBytes8
set_option maxRecDepth 200000
open Go.ChangeShapes Go.WideShapes Go.ChangeAt Go.RowKit Kit
theorem info8 : (Try.prog.info? 5).map (fun i => (i.zero, i.size, i.bytes)) = some (some (.int .u8 0), 1, 1) := by kernel_rfl
end Go.Proofs.Ytjnnjgogpapbhaa.CBytes8
