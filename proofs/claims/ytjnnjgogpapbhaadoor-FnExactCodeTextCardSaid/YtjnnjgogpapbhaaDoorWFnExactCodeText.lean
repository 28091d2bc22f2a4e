/- The walk of FnExactCodeText: both texts are the one of codeL. -/
import Derived.Test.YtjnnjgogpapbhaaDoorCCodeTxt
namespace Go.Proofs.YtjnnjgogpapbhaaDoor.WFnExactCodeText
set_option maxRecDepth 200000
open Go.ChangeShapes Go.WideShapes Go.ChangeAt Go.RowKit Kit CCode CNumTxt BWords CCodeTxt
theorem walk (a0 b0 : Int) (_ : -9223372036854775808 ≤ a0) (_ : a0 ≤ 9223372036854775807) (_ : -9223372036854775808 ≤ b0) (_ : b0 ≤ 9223372036854775807) (w : World) (hL : LW w) (hT : Tab w) :
    Calls Tryd.prog 3 #[.agg #[.int .i64 a0, .int .i64 b0]] w (LawEnds w) := by
  have HL0 := hide hL
  have HT0 := hide hT
  clear hL hT
  have B0 : Below w.heap.size w (w.alloc (Obj.cells #[Value.int IntKind.i64 a0, Value.int IntKind.i64 b0] 23)) := (by repeat (first | exact Below.refl _ _ | with_reducible assumption | (refine Below.drew ?_) | (refine Below.drewN ?_ _) | (refine Below.alloc ?_ (by simp; try omega) _) | (refine Below.setCell ?_ (by simp; try omega) _)))
  have HB0 := hide B0
  clear B0
  go_enter Tryd.func3, Tryd.ntmps3
  go_wp2_with fail
  refine (toCode_any _ _ _).mono ?_
  rintro e w1 ⟨rfl, hb1⟩
  obtain ⟨hc1, hf1⟩ := bcell hb1
  have hz1 : w.heap.size < w1.heap.size := by have := hb1.size; simp at this; omega
  have HB1 := hide (HB0.out.trans (hb1.mono HB0.out.size))
  go_wp2_with fail
  refine (codeTextS_any _ _ _).mono ?_
  rintro e w2 ⟨rfl, hb2⟩
  obtain ⟨hc2, hf2⟩ := bcell hb2
  have hz2 : w.heap.size < w2.heap.size := by have := hb2.size; omega
  have HB2 := hide (HB1.out.trans (hb2.mono HB1.out.size))
  go_wp2_with fail
  refine (toCode_any _ _ _).mono ?_
  rintro e w3 ⟨rfl, hb3⟩
  obtain ⟨hc3, hf3⟩ := bcell hb3
  have hz3 : w.heap.size < w3.heap.size := by have := hb3.size; omega
  have HB3 := hide (HB2.out.trans (hb3.mono HB2.out.size))
  go_wp2_with fail
  refine (codeText_any _ _ _ (HL0.out.below HB3.out) (HT0.out.below HB3.out)).mono ?_
  rintro e w4 ⟨rfl, hb4⟩
  have hz4 := hb4.size
  have HB4 := hide (HB3.out.trans (hb4.mono HB3.out.size))
  clear hb1 hb2 hb3 hb4
  generalize codeL a0 b0 = l at *
  go_wp2_with fail
  go_ret
  exact ⟨rfl, HB4.out⟩
end Go.Proofs.YtjnnjgogpapbhaaDoor.WFnExactCodeText
