/- The walk of FnExactVarSize: the program's VarSize and the reference's answer alike. -/
import Derived.Test.YthapbpohclddiaaCPutVar
namespace Go.Proofs.Ythapbpohclddiaa.WFnExactVarSize
open Go.ChangeShapes Go.WideShapes Go.ChangeAt Go.RowKit Kit CPutVar
theorem walk (a0 : Int) (_ : -9223372036854775808 ≤ a0) (_ : a0 ≤ 9223372036854775807) (w : World) :
    Calls Try.prog 5 #[.int .i64 a0] w (LawEnds w) := by
  go_enter Try.func5, Try.ntmps5
  go_wp2_with fail
  refine (varSizeS_any a0 w).mono ?_
  rintro e w1 ⟨rfl, h1⟩
  go_wp2_with fail
  refine (varSize_any a0 w1).mono ?_
  rintro e w2 ⟨rfl, h2⟩
  have h12 := h1.trans (h2.mono h1.size)
  go_wp2_with fail
  go_ret
  exact ⟨rfl, h12⟩
end Go.Proofs.Ythapbpohclddiaa.WFnExactVarSize
