/- The walk of FnExactGetVar: the program and the reference answer alike, and the argument reads as it did. -/
import Derived.Test.YtbnepccneooemaaCGetVar
import Derived.Test.YtbnepccneooemaaCBytes
namespace Go.Proofs.Ytbnepccneooemaa.WFnExactGetVar
set_option maxRecDepth 200000
open Go.ChangeShapes Go.WideShapes Go.ChangeAt Go.RowKit Kit CGetVar
theorem walk (A : Option Addr) (zs : List Int) (c : Nat) (hl : zs.length ≤ c) (hc : c ≤ maxLen) (hz : InR 0 255 zs) (w : World) (hr : Rd w w.heap.size A (ints .u8 zs)) (a1 : Int) (lo : -9223372036854775808 ≤ a1) (hi : a1 ≤ 9223372036854775807) :
    Calls Try.prog 4 #[.slice A zs.length c, .int .i64 a1] w (LawEnds w) := by
  by_cases hbig : 1048576 < zs.length
  · go_enter Try.func4, Try.ntmps4
    go_wp2_with fail
    go_ret
    exact ⟨rfl, Below.refl _ _⟩
  have hm : zs.length ≤ 1048576 := by omega
  have hm' : zs.length ≤ maxLen := by unfold maxLen; omega
  clear hbig hc
  have B0 := Below.refl w.heap.size w
  go_enter Try.func4, Try.ntmps4
  go_wp2_with fail
  refine (CBytes.toByteS_any A zs c w ((hr.below B0).more B0.size) hm).mono ?_
  rintro e w1 ⟨Ap, cp, rfl, op, b1⟩
  have B1 := B0.trans (b1.mono B0.size)
  have rp := Rd.of_own op
  go_wp2_with fail
  refine (getVarS_any Ap zs cp a1 w1 rp hz hm lo hi).mono ?_
  rintro e w2 ⟨rfl, b2⟩
  have B2 := B1.trans (b2.mono B1.size)
  generalize hG : PVar.getV zs a1 = G
  have HG := hide hG
  clear hG
  go_wp2_with fail
  refine (CBytes.toByteS_any A zs c w2 ((hr.below B2).more B2.size) hm).mono ?_
  rintro e w3 ⟨Aq, cq, rfl, oq, b3⟩
  have B3 := B2.trans (b3.mono B2.size)
  have hcq : zs.length ≤ cq := own_cap oq
  have rq := Rd.of_own oq
  go_wp2_with fail
  refine (getVar_any Aq zs cq a1 w3 rq hz hm hcq lo hi).mono ?_
  rintro e w4 ⟨rfl, b4⟩
  rw [HG.out]
  have B4 := B3.trans (b4.mono B3.size)
  have rq := (rq.below b4).more b4.size
  have e1 : (G.1 != G.1) = false := by simp
  have e2 : (G.2 != G.2) = false := by simp
  go_wp2_with fail
  refine (CBytes.toByteS_any A zs c w4 ((hr.below B4).more B4.size) hm).mono ?_
  rintro e w5 ⟨Ar, cr, rfl, or, b5⟩
  have B5 := B4.trans (b5.mono B4.size)
  have rr := Rd.of_own or
  have rq := (rq.below b5).more b5.size
  go_wp2_with fail
  refine (CBytes.eqByteS_any Aq Ar zs zs cq cr _ w5 rq rr hm' hm').mono ?_
  rintro e w6 ⟨rfl, n, rfl⟩
  have B6 := Kit.Below.drewN B5 n
  simp only [beq_self_eq_true]
  go_wp2_with fail
  go_ret
  exact ⟨rfl, B6⟩
end Go.Proofs.Ytbnepccneooemaa.WFnExactGetVar
