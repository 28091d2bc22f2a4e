/- The walk of FnExactCodeValid: the program's CodeValid and the reference's answer alike. -/
import Derived.Test.YthapbpohclddiaaCCode
namespace Go.Proofs.Ythapbpohclddiaa.WFnExactCodeValid
open Go.ChangeShapes Go.WideShapes Go.ChangeAt Go.RowKit Kit CCode
theorem walk (a0 b0 : Int) (_ : -9223372036854775808 ≤ a0) (_ : a0 ≤ 9223372036854775807) (_ : -9223372036854775808 ≤ b0) (_ : b0 ≤ 9223372036854775807) (w : World) :
    Calls Try.prog 4 #[.agg #[.int .i64 a0, .int .i64 b0]] w (LawEnds w) := by
  go_enter Try.func4, Try.ntmps4
  go_wp2_with fail
  refine (toCode_any _ _ _).mono ?_
  rintro e w1 ⟨rfl, hb1⟩
  obtain ⟨hc1, hf1⟩ := bcell hb1
  have hz1 : w.heap.size < w1.heap.size := by have := hb1.size; simp at this; omega
  go_wp2_with fail
  refine (codeValidS_any _ _ _).mono ?_
  rintro e w2 ⟨rfl, hb2⟩
  obtain ⟨hc2, hf2⟩ := bcell hb2
  have hz2 : w.heap.size < w2.heap.size := by have := hb2.size; omega
  go_wp2_with fail
  refine (toCode_any _ _ _).mono ?_
  rintro e w3 ⟨rfl, hb3⟩
  obtain ⟨hc3, hf3⟩ := bcell hb3
  have hz3 : w.heap.size < w3.heap.size := by have := hb3.size; omega
  go_wp2_with fail
  refine (codeValid_any _ _ _).mono ?_
  rintro e w4 ⟨rfl, hb4⟩
  have hz4 := hb4.size
  go_wp2_with fail
  go_ret
  refine ⟨rfl, ?_⟩
  have B0 : Below w.heap.size w (w.alloc (Obj.cells #[Value.int IntKind.i64 a0, Value.int IntKind.i64 b0] 25)) := (by repeat (first | exact Below.refl _ _ | with_reducible assumption | (refine Below.drew ?_) | (refine Below.drewN ?_ _) | (refine Below.alloc ?_ (by simp; try omega) _) | (refine Below.setCell ?_ (by simp; try omega) _)))
  have := hb1.size; simp at this
  exact (((B0.trans (hb1.mono (by simp))).trans (hb2.mono (by omega))).trans (hb3.mono (by omega))).trans (hb4.mono (by omega))
end Go.Proofs.Ythapbpohclddiaa.WFnExactCodeValid
