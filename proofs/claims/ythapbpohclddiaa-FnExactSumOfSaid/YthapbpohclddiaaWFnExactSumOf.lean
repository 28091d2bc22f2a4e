/- The walk of FnExactSumOf: the program's SumOf and the reference's answer alike. -/
import Derived.Test.YthapbpohclddiaaCSumOf
import Derived.Test.YthapbpohclddiaaCBytes
namespace Go.Proofs.Ythapbpohclddiaa.WFnExactSumOf
open Go.ChangeShapes Go.WideShapes Go.ChangeAt Go.RowKit Kit
theorem walk (A : Option Addr) (zs : List Int) (c : Nat) (hl : zs.length ≤ c) (hc : c ≤ maxLen) (hz : InR 0 255 zs) (w : World) (hr : Rd w w.heap.size A (ints .u8 zs)) :
    Calls Try.prog 7 #[.slice A zs.length c] w (LawEnds w) := by
  by_cases hbig : 1048576 < zs.length
  · go_enter Try.func7, Try.ntmps7
    go_wp2_with fail
    go_ret
    exact ⟨rfl, Below.refl _ _⟩
  have hm : zs.length ≤ 1048576 := by omega
  have hm' : zs.length ≤ maxLen := by unfold maxLen; omega
  clear hbig
  go_enter Try.func7, Try.ntmps7
  go_wp2_with fail
  refine (CBytes.toByteS_any A zs c w hr hm).mono ?_
  rintro e w1 ⟨A1, c1, rfl, ho1, hb1⟩
  go_wp2_with fail
  refine (CSumOf.sumOfS_any A1 zs c1 _ w1 (Rd.of_own ho1) hz hm').mono ?_
  rintro e w2 ⟨rfl, rfl⟩
  go_wp2_with fail
  refine (CBytes.toByteS_any A zs c w1 ((hr.below hb1).more hb1.size) hm).mono ?_
  rintro e w2 ⟨A2, c2, rfl, ho2, hb2⟩
  go_wp2_with fail
  refine (CSumOf.sumOf_any A2 zs c2 _ w2 (Rd.of_own ho2) hz hm').mono ?_
  rintro e w3 ⟨rfl, rfl⟩
  go_wp2_with fail
  refine (CBytes.toByteS_any A zs c w2 ((hr.below (hb1.trans (hb2.mono hb1.size))).more (Nat.le_trans hb1.size hb2.size)) hm).mono ?_
  rintro e w3 ⟨A3, c3, rfl, ho3, hb3⟩
  go_wp2_with fail
  refine (CBytes.eqByteS_any A2 A3 zs zs c2 c3 _ w3 ((Rd.of_own ho2).below hb3 |>.more hb3.size) (Rd.of_own ho3) hm' hm').mono ?_
  rintro e w4 ⟨rfl, n, rfl⟩
  simp only [beq_self_eq_true]
  go_wp2_with fail
  go_ret
  exact ⟨rfl, Below.drewN ((hb1.trans (hb2.mono hb1.size)).trans (hb3.mono (Nat.le_trans hb1.size hb2.size))) n⟩
end Go.Proofs.Ythapbpohclddiaa.WFnExactSumOf
