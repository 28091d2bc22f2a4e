/- The walk of FnCodeText: texts of codes can be read. -/
import Derived.Test.YtjnnjgogpapbhaaDoorCReadCode
import Derived.Test.YtjnnjgogpapbhaaDoorDCode
import Derived.Test.YtjnnjgogpapbhaaDoorCAlive
namespace Go.Proofs.YtjnnjgogpapbhaaDoor.WFnCodeText
set_option maxRecDepth 200000
open Go.ChangeShapes Go.WideShapes Go.ChangeAt Go.RowKit Kit CCode CNumTxt BWords CCodeTxt PRead CReadCode DPick DVar DCode CAlive
theorem draw_any {A : Option Addr} {zs : List Int} {c : Nat} {w : World} (hr : Rd w w.heap.size A (ints .u8 zs)) (hz : InR 0 255 zs) (hc : zs.length ≤ c) (hcm : c ≤ maxLen) :
    Calls Tryd.prog 23 #[.slice A zs.length c] w (fun e w' => ∃ a b : Int, e = .returned (.agg #[.int .i64 a, .int .i64 b]) ∧ Below w.heap.size w w') := by
  have b0 : Below w.heap.size w (w.alloc (.cells #[.int .i64 0, .int .i64 0] 25)) := (by repeat (first | exact Below.refl _ _ | with_reducible assumption | (refine Below.drew ?_) | (refine Below.drewN ?_ _) | (refine Below.alloc ?_ (by simp; try omega) _) | (refine Below.setCell ?_ (by simp; try omega) _)))
  have HO := hide (open_any A zs c _ ((hr.below b0).more b0.size) hz hc hcm)
  have HX := hide (Box.new w 25 #[.int .i64 0, .int .i64 0])
  have HB0 := hide b0
  clear hr hz hc hcm b0
  go_enter Tryd.func23, Tryd.ntmps23
  go_wp2_with fail
  refine HO.out.mono ?_
  rintro e w1 ⟨R, rfl, T, b1⟩
  have T0 := Tp.start T
  have hRl := T.1
  have X1 := HX.out.call b1
  have B1 := HB0.out.trans (b1.mono HB0.out.size)
  go_wp2_with fail
  refine (code_any T0 (by omega) _ (by omega) (by omega)).mono ?_
  rintro e w2 ⟨a, b, rfl, _, _, _, _, T2⟩
  have hsz : (w.alloc (.cells #[.int .i64 0, .int .i64 0] 25)).heap.size = w.heap.size + 1 := by simp
  have X2 := X1.grown T2.2 (fun k hk => by injection hk with hk; omega)
  have B2 := B1.trans (T2.below B1.size (show w.heap.size ≤ R by omega))
  have HX2 := hide X2
  have q0 := X2.cell 0
  have q1 := X2.cell 1
  have f0 := X2.frozen 0
  have f1 := X2.frozen 1
  simp only [List.getElem?_toArray, List.getElem?_cons_zero, List.getElem?_cons_succ] at q0 q1
  clear X1 X2 T T0 T2 b1 B1 hsz HX HO HB0
  go_wp2_with fail
  have c0 := (HX2.out.set 0 (.int .i64 a)).cell 0
  have c1 := ((HX2.out.set 0 (.int .i64 a)).set 1 (.int .i64 b)).cell 1
  have c2 := ((HX2.out.set 0 (.int .i64 a)).set 1 (.int .i64 b)).cell 0
  simp only [List.setIfInBounds_toArray, List.set_cons_zero, List.set_cons_succ, List.getElem?_toArray, List.getElem?_cons_zero, List.getElem?_cons_succ] at c0 c1 c2
  exact bodyPost_ret (v := .agg #[.int .i64 a, .int .i64 b]) (by simp [results, Tryd.results23, go_sem, c0, c1, c2]) rfl ⟨a, b, rfl, (B2.setCell (Nat.le_refl _) _).setCell (Nat.le_refl _) _⟩
theorem code_len {a b : Int} (h : codeOk a b = true) : (codeL a b).length ≤ 12 := by
  have hk := h
  simp only [codeOk, decide_eq_true_eq] at hk
  obtain ⟨d, rfl⟩ := Int.eq_ofNat_of_zero_le hk.1
  have hw := word_len (d := d)
  have hi := itoa_len hk.2.2.1 hk.2.2.2.1
  cases ha : hasArgB d
  · rw [codeL_no h ha]; omega
  · rw [codeL_arg h ha]
    simp only [List.length_append, List.length_cons, List.length_nil]
    omega
theorem walk (A : Option Addr) (zs : List Int) (c : Nat) (hl : zs.length ≤ c) (hc : c ≤ maxLen) (hz : InR 0 255 zs) (w : World) (hr : Rd w w.heap.size A (ints .u8 zs)) (hT : Tab w) (hR : ER w) (hS : ES w) (hL : LW w) :
    Calls Tryd.prog 7 #[.slice A zs.length c] w (LawEnds w) := by
  have HT := hide hT
  have HR := hide hR
  have HS := hide hS
  have HL := hide hL
  clear hT hR hS hL
  have hcm := hc
  unfold maxLen at hcm
  have HD := hide (draw_any hr hz hl hc)
  clear hr hz hc
  by_cases hbig : 1048576 < zs.length
  · go_enter Tryd.func7, Tryd.ntmps7
    go_wp2_with fail
    go_ret
    exact ⟨rfl, Below.refl _ _⟩
  go_enter Tryd.func7, Tryd.ntmps7
  go_wp2_with fail
  refine HD.out.mono ?_
  rintro e w1 ⟨a, b, rfl, b1⟩
  have HB1 := hide b1
  clear b1 HD
  go_wp2_with fail
  have X1 := Box.new w1 25 #[.int .i64 a, .int .i64 b]
  have B1 : Below w1.heap.size w1 (w1.alloc (.cells #[.int .i64 a, .int .i64 b] 25)) := (by repeat (first | exact Below.refl _ _ | with_reducible assumption | (refine Below.drew ?_) | (refine Below.drewN ?_ _) | (refine Below.alloc ?_ (by simp; try omega) _) | (refine Below.setCell ?_ (by simp; try omega) _)))
  have HB2 := hide (HB1.out.trans (B1.mono HB1.out.size))
  generalize w1.heap.size = X at *
  generalize w1.alloc (.cells #[.int .i64 a, .int .i64 b] 25) = w2 at *
  clear HB1 B1
  refine (codeText_any a b w2 (HL.out.below HB2.out) (HT.out.below HB2.out)).mono ?_
  rintro e w3 ⟨rfl, b3⟩
  have X3 := X1.call b3
  have HB3 := hide (HB2.out.trans (b3.mono HB2.out.size))
  have x0 := X3.cell 0
  have x1 := X3.cell 1
  simp only [List.getElem?_toArray, List.getElem?_cons_zero, List.getElem?_cons_succ] at x0 x1
  clear b3 HB2 X1
  go_wp2_with fail
  refine (codeTextS_any a b w3).mono ?_
  rintro e w4 ⟨rfl, b4⟩
  have X4 := X3.call b4
  have HB4 := hide (HB3.out.trans (b4.mono HB3.out.size))
  clear x0 x1
  have x0 := X4.cell 0
  have x1 := X4.cell 1
  simp only [List.getElem?_toArray, List.getElem?_cons_zero, List.getElem?_cons_succ] at x0 x1
  clear b4 HB3 X3
  cases hok : codeOk a b
  · rw [codeL_bad hok]
    go_wp2_with fail
    refine (codeValidS_any a b w4).mono ?_
    rintro e w5 ⟨rfl, b5⟩
    rw [hok]
    have HB5 := hide (HB4.out.trans (b5.mono HB4.out.size))
    clear b5 HB4 X4 x0 x1 hok
    go_wp2_with fail
    refine (alive_any _).mono ?_
    rintro e w' ⟨rfl, rfl⟩
    go_wp2_with fail
    go_ret
    exact ⟨rfl, HB5.out⟩
  · have hk := hok
    simp only [codeOk, decide_eq_true_eq] at hk
    obtain ⟨d, rfl⟩ := Int.eq_ofNat_of_zero_le hk.1
    have HI := hide (show Is (codeL d b) d b from ⟨hok, rfl⟩)
    have hlen := code_len hok
    have HOK := hide hok
    clear hok hk
    generalize codeL d b = l at *
    have hsz : (⟨l.toArray⟩ : ByteArray).size ≤ 2000000 := by show l.toArray.size ≤ _; simp; omega
    have HSZ := hide hsz
    clear hsz hlen
    go_wp2_with fail
    refine (codeValidS_any d b w4).mono ?_
    rintro e w5 ⟨rfl, b5⟩
    rw [HOK.out]
    have X5 := X4.call b5
    have HB5 := hide (HB4.out.trans (b5.mono HB4.out.size))
    clear b5 HB4 X4 x0 x1
    go_wp2_with fail
    refine (readCode_any ⟨l.toArray⟩ HSZ.out w5 (HL.out.below HB5.out) (HT.out.below HB5.out) (HR.out.below HB5.out) (HS.out.below HB5.out)).mono ?_
    rintro e w6 ⟨h6, b6⟩
    have X6 := X5.call b6
    have HB6 := hide (HB5.out.trans (b6.mono HB5.out.size))
    have x0 := X6.cell 0
    have x1 := X6.cell 1
    simp only [List.getElem?_toArray, List.getElem?_cons_zero, List.getElem?_cons_succ] at x0 x1
    have hX := X6.lt
    clear b6 HB5 X5 X6
    rcases h6 with ⟨d', b', rfl, hi'⟩ | ⟨rfl, hn'⟩
    · obtain ⟨rfl, rfl⟩ := is_unique HI.out hi'
      clear hi' HI
      go_wp2_with fail
      go_ret
      exact ⟨rfl, HB6.out.alloc HB6.out.size _⟩
    · exact absurd HI.out (hn' _ _)
end Go.Proofs.YtjnnjgogpapbhaaDoor.WFnCodeText
