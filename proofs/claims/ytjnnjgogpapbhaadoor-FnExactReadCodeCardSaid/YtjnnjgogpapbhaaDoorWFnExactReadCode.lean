/- The walk of FnExactReadCode: both read the one instruction whose text it is. -/
import Derived.Test.YtjnnjgogpapbhaaDoorCReadCodeS
namespace Go.Proofs.YtjnnjgogpapbhaaDoor.WFnExactReadCode
set_option maxRecDepth 200000
open Go.ChangeShapes Go.WideShapes Go.ChangeAt Go.RowKit Kit CCode CNumTxt BWords CCodeTxt PRead CReadCode CReadCodeS
theorem eqCode_any (a b c d : Int) (w : World) : Calls Tryd.prog 22 #[.agg #[.int .i64 a, .int .i64 b], .agg #[.int .i64 c, .int .i64 d]] w (Ret (.bool (decide (a = c ∧ b = d))) w) := by
  by_cases h1 : a = c
  · by_cases h2 : b = d
    · subst h1 h2
      go_enter Tryd.func22, Tryd.ntmps22
      go_wp2_with fail
      go_ret
      exact ⟨by simp, (by repeat (first | exact Below.refl _ _ | with_reducible assumption | (refine Below.drew ?_) | (refine Below.drewN ?_ _) | (refine Below.alloc ?_ (by simp; try omega) _) | (refine Below.setCell ?_ (by simp; try omega) _)))⟩
    · have hd : decide (a = c ∧ b = d) = false := decide_eq_false (fun h => h2 h.2)
      rw [hd]
      subst h1
      have h3 : (b == d) = false := beq_eq_false_iff_ne.2 h2
      go_enter Tryd.func22, Tryd.ntmps22
      go_wp2_with fail
      go_ret
      exact ⟨by simp, (by repeat (first | exact Below.refl _ _ | with_reducible assumption | (refine Below.drew ?_) | (refine Below.drewN ?_ _) | (refine Below.alloc ?_ (by simp; try omega) _) | (refine Below.setCell ?_ (by simp; try omega) _)))⟩
  · have hd : decide (a = c ∧ b = d) = false := decide_eq_false (fun h => h1 h.1)
    rw [hd]
    have h3 : (a == c) = false := beq_eq_false_iff_ne.2 h1
    go_enter Tryd.func22, Tryd.ntmps22
    go_wp2_with fail
    go_ret
    exact ⟨by simp, (by repeat (first | exact Below.refl _ _ | with_reducible assumption | (refine Below.drew ?_) | (refine Below.drewN ?_ _) | (refine Below.alloc ?_ (by simp; try omega) _) | (refine Below.setCell ?_ (by simp; try omega) _)))⟩
theorem walk (s : ByteArray) (hs : s.size ≤ maxLen) (w : World) (hT : Tab w) (hR : ER w) (hS : ES w) (hL : LW w) :
    Calls Tryd.prog 6 #[.string s] w (LawEnds w) := by
  have HT := hide hT
  have HR := hide hR
  have HS := hide hS
  have HL := hide hL
  clear hT hR hS hL
  unfold maxLen at hs
  by_cases hbig : 1048576 < s.size
  · go_enter Tryd.func6, Tryd.ntmps6
    go_wp2_with fail
    go_ret
    exact ⟨rfl, Below.refl _ _⟩
  go_enter Tryd.func6, Tryd.ntmps6
  go_wp2_with fail
  refine (readCodeS_any s (by omega) w).mono ?_
  rintro e w1 ⟨h1, b1⟩
  have HB1 := hide b1
  clear b1
  rcases h1 with ⟨d, b, rfl, hi⟩ | ⟨rfl, hn⟩
  · have HI := hide hi
    clear hi
    go_wp2_with fail
    have X1 := Box.new w1 25 #[.int .i64 d, .int .i64 b]
    have B1 : Below w1.heap.size w1 (w1.alloc (.cells #[.int .i64 d, .int .i64 b] 25)) := (by repeat (first | exact Below.refl _ _ | with_reducible assumption | (refine Below.drew ?_) | (refine Below.drewN ?_ _) | (refine Below.alloc ?_ (by simp; try omega) _) | (refine Below.setCell ?_ (by simp; try omega) _)))
    have HB2 := hide (HB1.out.trans (B1.mono HB1.out.size))
    generalize w1.heap.size = X at *
    generalize w1.alloc (.cells #[.int .i64 d, .int .i64 b] 25) = w2 at *
    clear HB1 B1
    refine (readCode_any s (by omega) w2 (HL.out.below HB2.out) (HT.out.below HB2.out) (HR.out.below HB2.out) (HS.out.below HB2.out)).mono ?_
    rintro e w3 ⟨h3, b3⟩
    have X3 := X1.call b3
    have HB3 := hide (HB2.out.trans (b3.mono HB2.out.size))
    have x0 := X3.cell 0
    have x1 := X3.cell 1
    simp only [List.getElem?_toArray, List.getElem?_cons_zero, List.getElem?_cons_succ] at x0 x1
    have hX := X3.lt
    clear b3 HB2 X1 X3
    rcases h3 with ⟨d', b', rfl, hi'⟩ | ⟨rfl, hn'⟩
    · obtain ⟨rfl, rfl⟩ := is_unique HI.out hi'
      clear hi' HI
      go_wp2_with fail
      refine (eqCode_any _ _ _ _ _).mono ?_
      rintro e w4 ⟨rfl, b4⟩
      have HB4 := hide ((HB3.out.alloc HB3.out.size _).trans (b4.mono (HB3.out.alloc HB3.out.size _).size))
      clear b4
      go_wp2_with fail
      go_ret
      exact ⟨rfl, HB4.out⟩
    · exact absurd HI.out (hn' _ _)
  · have HN := hide hn
    clear hn
    go_wp2_with fail
    have X1 := Box.new w1 25 #[.int .i64 0, .int .i64 0]
    have B1 : Below w1.heap.size w1 (w1.alloc (.cells #[.int .i64 0, .int .i64 0] 25)) := (by repeat (first | exact Below.refl _ _ | with_reducible assumption | (refine Below.drew ?_) | (refine Below.drewN ?_ _) | (refine Below.alloc ?_ (by simp; try omega) _) | (refine Below.setCell ?_ (by simp; try omega) _)))
    have HB2 := hide (HB1.out.trans (B1.mono HB1.out.size))
    generalize w1.heap.size = X at *
    generalize w1.alloc (.cells #[.int .i64 0, .int .i64 0] 25) = w2 at *
    clear HB1 B1
    refine (readCode_any s (by omega) w2 (HL.out.below HB2.out) (HT.out.below HB2.out) (HR.out.below HB2.out) (HS.out.below HB2.out)).mono ?_
    rintro e w3 ⟨h3, b3⟩
    have X3 := X1.call b3
    have HB3 := hide (HB2.out.trans (b3.mono HB2.out.size))
    have x0 := X3.cell 0
    have x1 := X3.cell 1
    simp only [List.getElem?_toArray, List.getElem?_cons_zero, List.getElem?_cons_succ] at x0 x1
    have hX := X3.lt
    clear b3 HB2 X1 X3
    rcases h3 with ⟨d', b', rfl, hi'⟩ | ⟨rfl, hn'⟩
    · exact absurd hi' (HN.out _ _)
    · clear hn' HN
      go_wp2_with fail
      refine (eqCode_any _ _ _ _ _).mono ?_
      rintro e w4 ⟨rfl, b4⟩
      have HB4 := hide ((HB3.out.alloc HB3.out.size _).trans (b4.mono (HB3.out.alloc HB3.out.size _).size))
      clear b4
      go_wp2_with fail
      go_ret
      exact ⟨rfl, HB4.out⟩
end Go.Proofs.YtjnnjgogpapbhaaDoor.WFnExactReadCode
