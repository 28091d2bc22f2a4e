/- Draws that hand back one number. -/
import Derived.Test.YtndnmbhhfiacaaaDVar
namespace Go.Proofs.Ytndnmbhhfiacaaa.DInts
set_option maxRecDepth 200000
open Go.ChangeShapes Go.WideShapes Go.ChangeAt Go.RowKit Kit DPick DVar
def DrawnInt (lo hi : Int) (w : World) (e : Ending) (w' : World) : Prop := ∃ x : Int, e = .returned (.int .i64 x) ∧ lo ≤ x ∧ x ≤ hi ∧ Below w.heap.size w w'
section
variable {A : Option Addr} {zs : List Int} {c : Nat} {w : World} (hr : Rd w w.heap.size A (ints .u8 zs)) (hz : InR 0 255 zs) (hc : zs.length ≤ c) (hcm : c ≤ maxLen)
include hr hz hc hcm
theorem drawPutVar_any : Calls Try.prog 47 #[.slice A zs.length c] w (DrawnInt (-1) 268435456 w) := by
  have HO := hide (open_any A zs c w hr hz hc hcm)
  clear hr hz hc hcm
  go_enter Try.func47, Try.ntmps47
  go_wp2_with fail
  refine HO.out.mono ?_
  rintro e w1 ⟨R, rfl, T, b1⟩
  have T0 := Tp.start T
  go_wp2_with fail
  refine (var_any T0 (by omega) _ (by omega) (by omega)).mono ?_
  rintro e w2 ⟨x, rfl, x0, x1, T2⟩
  go_wp2_with fail
  go_ret
  exact ⟨x, rfl, x0, x1, b1.trans (T2.below b1.size T.1)⟩
end
end Go.Proofs.Ytndnmbhhfiacaaa.DInts
