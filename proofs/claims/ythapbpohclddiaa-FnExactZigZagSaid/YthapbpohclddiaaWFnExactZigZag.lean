/- The walk of FnExactZigZag: the program's ZigZag and the reference's answer alike. -/
import Derived.Test.YthapbpohclddiaaBase
import Derived.Test.YthapbpohclddiaaRows
namespace Go.Proofs.Ythapbpohclddiaa.WFnExactZigZag
open Go.ChangeShapes Go.WideShapes Go.ChangeAt Go.RowKit
theorem walk (a0 : Int) (lo0 : -9223372036854775808 ≤ a0) (hi0 : a0 ≤ 9223372036854775807) (w : World) :
    Calls Try.prog 3 #[.int .i64 a0] w (Kit.LawEnds w) := by
  go_enter Try.func3, Try.ntmps3
  go_wp2
  all_goals go_ret
  all_goals exact ⟨rfl, Below.refl _ _⟩
end Go.Proofs.Ythapbpohclddiaa.WFnExactZigZag
