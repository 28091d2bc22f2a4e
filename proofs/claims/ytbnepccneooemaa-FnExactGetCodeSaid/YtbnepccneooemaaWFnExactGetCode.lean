/- The walk of FnExactGetCode: the program and the reference answer alike, and the argument reads as it did. -/
import Derived.Test.YtbnepccneooemaaCPutCode
import Derived.Test.YtbnepccneooemaaCBytes
namespace Go.Proofs.Ytbnepccneooemaa.WFnExactGetCode
set_option maxRecDepth 200000
open Go.ChangeShapes Go.WideShapes Go.ChangeAt Go.RowKit Kit CCode CPutCode
theorem eqCode_same (x y : Int) (w : World) : Calls Try.prog 46 #[.agg #[.int .i64 x, .int .i64 y], .agg #[.int .i64 x, .int .i64 y]] w (Ret (.bool true) w) := by
  go_enter Try.func46, Try.ntmps46
  go_wp2
  go_ret
  exact ⟨rfl, (by repeat (first | exact Below.refl _ _ | with_reducible assumption | (refine Below.drew ?_) | (refine Below.drewN ?_ _) | (refine Below.alloc ?_ (by simp; try omega) _) | (refine Below.setCell ?_ (by simp; try omega) _)))⟩
theorem walk (A : Option Addr) (zs : List Int) (c : Nat) (hl : zs.length ≤ c) (hc : c ≤ maxLen) (hz : InR 0 255 zs) (w : World) (hr : Rd w w.heap.size A (ints .u8 zs)) (a1 : Int) (lo : -9223372036854775808 ≤ a1) (hi : a1 ≤ 9223372036854775807) :
    Calls Try.prog 10 #[.slice A zs.length c, .int .i64 a1] w (LawEnds w) := by
  by_cases hbig : 1048576 < zs.length
  · go_enter Try.func10, Try.ntmps10
    go_wp2_with fail
    go_ret
    exact ⟨rfl, Below.refl _ _⟩
  have hm : zs.length ≤ 1048576 := by omega
  have hm' : zs.length ≤ maxLen := by unfold maxLen; omega
  clear hbig hc hl
  have B0 := Below.refl w.heap.size w
  go_enter Try.func10, Try.ntmps10
  go_wp2_with fail
  refine (CBytes.toByteS_any A zs c w ((hr.below B0).more B0.size) hm).mono ?_
  rintro e w1 ⟨Ap, cp, rfl, op, b1⟩
  have B1 := B0.trans (b1.mono B0.size)
  have rp := Rd.of_own op
  go_wp2_with fail
  refine (getCodeS_any Ap zs cp a1 w1 rp hz hm).mono ?_
  rintro e w2 ⟨rfl, b2⟩
  have B2 := B1.trans (b2.mono B1.size)
  generalize hG : gcode zs a1 = G
  have HG := hide hG
  have HR := hide hr
  clear hG hr rp op
  obtain ⟨x, y, n⟩ := G
  simp only [gval]
  go_wp2_with fail
  have X := Box.new w2 67 #[.int .i64 x, .int .i64 y]
  have B3 : Below w.heap.size w (w2.alloc (.cells #[.int .i64 x, .int .i64 y] 67)) := B2.alloc B2.size _
  generalize w2.heap.size = g0 at *
  generalize w2.alloc (.cells #[.int .i64 x, .int .i64 y] 67) = w3 at *
  refine (CBytes.toByteS_any A zs c w3 ((HR.out.below B3).more B3.size) hm).mono ?_
  rintro e w4 ⟨Aq, cq, rfl, oq, b4⟩
  have B4 := B3.trans (b4.mono B3.size)
  have X4 := X.call b4
  have rq := Rd.of_own oq
  clear oq
  go_wp2_with fail
  refine (getCode_any Aq zs cq a1 w4 rq hz hm).mono ?_
  rintro e w5 ⟨rfl, b5⟩
  rw [HG.out]
  simp only [gval]
  have B5 := B4.trans (b5.mono B4.size)
  have X5 := X4.call b5
  have rq5 := (rq.below b5).more b5.size
  have q0 := X5.cell 0
  have q1 := X5.cell 1
  have hg5 := X5.lt
  simp only [List.getElem?_toArray, List.getElem?_cons_zero, List.getElem?_cons_succ] at q0 q1
  clear rq X X4
  go_wp2_with fail
  have B6 : Below w.heap.size w (w5.alloc (.cells #[.int .i64 x, .int .i64 y] 67)) := B5.alloc B5.size _
  have rq6 : Rd (w5.alloc (.cells #[.int .i64 x, .int .i64 y] 67)) (w5.alloc (.cells #[.int .i64 x, .int .i64 y] 67)).heap.size Aq (ints .u8 zs) := (rq5.below (Below.alloc (Below.refl _ _) (Nat.le_refl _) _)).more (by simp)
  have HR6 := hide rq6
  clear rq5 rq6 q0 q1 X5
  refine (eqCode_same x y _).mono ?_
  rintro e w7 ⟨rfl, b7⟩
  have B7 := B6.trans (b7.mono B6.size)
  have HQ := hide ((HR6.out.below b7).more b7.size)
  have hnn : (n != n) = false := by simp
  go_wp2_with fail
  refine (CBytes.toByteS_any A zs c w7 ((HR.out.below B7).more B7.size) hm).mono ?_
  rintro e w8 ⟨Ar, cr, rfl, or, b8⟩
  have B8 := B7.trans (b8.mono B7.size)
  have rr := Rd.of_own or
  go_wp2_with fail
  refine (CBytes.eqByteS_any Aq Ar zs zs cq cr _ w8 ((HQ.out.below b8).more b8.size) rr hm' hm').mono ?_
  rintro e w9 ⟨rfl, k, rfl⟩
  simp only [beq_self_eq_true]
  go_wp2_with fail
  go_ret
  exact ⟨rfl, Kit.Below.drewN B8 k⟩
end Go.Proofs.Ytbnepccneooemaa.WFnExactGetCode
