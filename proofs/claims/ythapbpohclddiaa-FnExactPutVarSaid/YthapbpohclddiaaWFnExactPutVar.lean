/- The walk of FnExactPutVar: the program's PutVar and the reference's answer alike; its result is memory of its own. -/
import Derived.Test.YthapbpohclddiaaCPutVar
import Derived.Test.YthapbpohclddiaaCBytes
namespace Go.Proofs.Ythapbpohclddiaa.WFnExactPutVar
open Go.ChangeShapes Go.WideShapes Go.ChangeAt Go.RowKit Kit CPutVar CBytes
theorem walk (a0 : Int) (_ : -9223372036854775808 ≤ a0) (_ : a0 ≤ 9223372036854775807) (w : World) :
    Calls Try.prog 8 #[.int .i64 a0] w (LawEnds w) := by
  obtain ⟨hl, hz⟩ := var_bd a0
  have hm : (var a0).length ≤ maxLen := by unfold maxLen; omega
  generalize hV : var a0 = zs at *
  have HV := hide hV
  clear hV
  go_enter Try.func8, Try.ntmps8
  go_wp2_with fail
  refine (putVarS_any a0 w).mono ?_
  rw [HV.out]
  rintro e w1 ⟨A1, c1, rfl, o1, b1⟩
  go_wp2_with fail
  refine (putVar_any a0 w1).mono ?_
  rw [HV.out]
  rintro e w2 ⟨A2, c2, rfl, o2, b2⟩
  have B2 := b1.trans (b2.mono b1.size)
  have r1 := (Rd.of_own o1).below b2 |>.more b2.size
  go_wp2_with fail
  refine (eqByteS_any A2 A1 zs zs c2 c1 _ w2 (Rd.of_own o2) r1 hm hm).mono ?_
  rintro e w3 ⟨rfl, n3, rfl⟩
  simp only [beq_self_eq_true]
  go_wp2_with fail
  refine (mark_any w1.heap.size A2 c2 zs 1 (w2.drewN n3) (by omega) (by omega) (by omega) o2).mono ?_
  rintro e w4 ⟨rfl, o4, g4⟩
  have B4 : Below w1.heap.size w1 w4 := (Kit.Below.drewN b2 n3).grown g4 (show w1.heap.size ≤ w2.heap.size from b2.size) (fun k hk => (o2.lt k hk).1)
  have r4 := Rd.of_own o4
  go_wp2_with fail
  refine (held_any _ A2 c2 zs.length 1 w4 (by omega) (by omega) (by omega) r4).mono ?_
  rintro e w5 ⟨rfl, rfl⟩
  go_wp2_with fail
  refine (putVar_any a0 w4).mono ?_
  rw [HV.out]
  rintro e w5 ⟨A5, c5, rfl, o5, b5⟩
  have B5 := B4.trans (b5.mono B4.size)
  have r5 := (Rd.of_own o1).below B5 |>.more B5.size
  go_wp2_with fail
  refine (eqByteS_any A5 A1 zs zs c5 c1 _ w5 (Rd.of_own o5) r5 hm hm).mono ?_
  rintro e w6 ⟨rfl, n6, rfl⟩
  simp only [beq_self_eq_true]
  have r6 : Rd (w5.drewN n6) w4.heap.size A2 (ints .u8 (marks 1 zs.length)) := r4.below (Kit.Below.drewN b5 n6)
  go_wp2_with fail
  refine (held_any _ A2 c2 zs.length 1 _ (by omega) (by omega) (by omega) r6).mono ?_
  rintro e w7 ⟨rfl, rfl⟩
  go_wp2_with fail
  go_ret
  exact ⟨rfl, Kit.Below.drewN (b1.trans (B5.mono b1.size)) n6⟩
end Go.Proofs.Ythapbpohclddiaa.WFnExactPutVar
