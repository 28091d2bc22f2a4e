/- The walk of FnCodeValid: codes are known. -/
import Derived.Test.YtckfffhionhnkaaDCode
import Derived.Test.YtckfffhionhnkaaCAlive
namespace Go.Proofs.Ytckfffhionhnkaa.WFnCodeValid
set_option maxRecDepth 200000
open Go.ChangeShapes Go.WideShapes Go.ChangeAt Go.RowKit Kit CCode DPick DVar DCode CAlive
theorem drawCodeValid_any {A : Option Addr} {zs : List Int} {c : Nat} {w : World} (hr : Rd w w.heap.size A (ints .u8 zs)) (hz : InR 0 255 zs) (hc : zs.length ≤ c) (hcm : c ≤ maxLen) :
    Calls Try.prog 73 #[.slice A zs.length c] w (fun e w' => ∃ a b : Int, e = .returned (.agg #[.int .i64 a, .int .i64 b]) ∧ Below w.heap.size w w') := by
  have b0 : Below w.heap.size w (w.alloc (.cells #[.int .i64 0, .int .i64 0] 80)) := (by repeat (first | exact Below.refl _ _ | with_reducible assumption | (refine Below.drew ?_) | (refine Below.drewN ?_ _) | (refine Below.alloc ?_ (by simp; try omega) _) | (refine Below.setCell ?_ (by simp; try omega) _)))
  have HO := hide (open_any A zs c _ ((hr.below b0).more b0.size) hz hc hcm)
  have HX := hide (Box.new w 80 #[.int .i64 0, .int .i64 0])
  have HB0 := hide b0
  clear hr hz hc hcm b0
  go_enter Try.func73, Try.ntmps73
  go_wp2_with fail
  refine HO.out.mono ?_
  rintro e w1 ⟨R, rfl, T, b1⟩
  have T0 := Tp.start T
  have hRl := T.1
  have X1 := HX.out.call b1
  have B1 := HB0.out.trans (b1.mono HB0.out.size)
  go_wp2_with fail
  refine (code_any T0 (by omega) _ (by omega) (by omega)).mono ?_
  rintro e w2 ⟨a, b, rfl, _, _, _, _, T2⟩
  have hsz : (w.alloc (.cells #[.int .i64 0, .int .i64 0] 80)).heap.size = w.heap.size + 1 := by simp
  have X2 := X1.grown T2.2 (fun k hk => by injection hk with hk; omega)
  have B2 := B1.trans (T2.below B1.size (show w.heap.size ≤ R by omega))
  have HX2 := hide X2
  have q0 := X2.cell 0
  have q1 := X2.cell 1
  have f0 := X2.frozen 0
  have f1 := X2.frozen 1
  simp only [List.getElem?_toArray, List.getElem?_cons_zero, List.getElem?_cons_succ] at q0 q1
  clear X1 X2 T T0 T2 b1 B1 hsz HX HO HB0
  go_wp2_with fail
  have c0 := (HX2.out.set 0 (.int .i64 a)).cell 0
  have c1 := ((HX2.out.set 0 (.int .i64 a)).set 1 (.int .i64 b)).cell 1
  have c2 := ((HX2.out.set 0 (.int .i64 a)).set 1 (.int .i64 b)).cell 0
  simp only [List.setIfInBounds_toArray, List.set_cons_zero, List.set_cons_succ, List.getElem?_toArray, List.getElem?_cons_zero, List.getElem?_cons_succ] at c0 c1 c2
  exact bodyPost_ret (v := .agg #[.int .i64 a, .int .i64 b]) (by simp [results, Try.results73, go_sem, c0, c1, c2]) rfl ⟨a, b, rfl, (B2.setCell (Nat.le_refl _) _).setCell (Nat.le_refl _) _⟩
theorem walk (A : Option Addr) (zs : List Int) (c : Nat) (hl : zs.length ≤ c) (hc : c ≤ maxLen) (hz : InR 0 255 zs) (w : World) (hr : Rd w w.heap.size A (ints .u8 zs)) :
    Calls Try.prog 11 #[.slice A zs.length c] w (LawEnds w) := by
  have hcm := hc
  unfold maxLen at hcm
  have HD := hide (drawCodeValid_any hr hz hl hc)
  clear hr hz hc
  by_cases hbig : 1048576 < zs.length
  · go_enter Try.func11, Try.ntmps11
    go_wp2_with fail
    go_ret
    exact ⟨rfl, Below.refl _ _⟩
  go_enter Try.func11, Try.ntmps11
  go_wp2_with fail
  refine HD.out.mono ?_
  rintro e w1 ⟨a, b, rfl, b1⟩
  have HB := hide b1
  clear b1
  have hv8 : codeOk 8 0 = false := by decide
  have hva : codeOk a b = true → codeOk a 0 = true := by
    unfold codeOk
    intro h
    have h := of_decide_eq_true h
    exact decide_eq_true (by omega)
  have HV8 := hide hv8
  have HVA := hide hva
  clear hv8 hva
  have X1 := Box.new w1 80 #[.int .i64 a, .int .i64 b]
  have B1 := HB.out.alloc HB.out.size (.cells #[.int .i64 a, .int .i64 b] 80)
  have HX1 := hide X1
  have HB1 := hide B1
  clear X1 B1
  go_wp2_with fail
  refine (codeValid_any a b _).mono ?_
  rintro e w2 ⟨rfl, b2⟩
  have HX2 := hide (HX1.out.call b2)
  have HB2 := hide (HB1.out.trans (b2.mono HB1.out.size))
  have q0 := HX2.out.cell 0
  have q1 := HX2.out.cell 1
  simp only [List.getElem?_toArray, List.getElem?_cons_zero, List.getElem?_cons_succ] at q0 q1
  clear b2
  go_wp2_with fail
  refine (codeValidS_any a b _).mono ?_
  rintro e w3 ⟨rfl, b3⟩
  have HX3 := hide (HX2.out.call b3)
  have HB3 := hide (HB2.out.trans (b3.mono HB2.out.size))
  clear b3 q0 q1
  have q0 := HX3.out.cell 0
  have q1 := HX3.out.cell 1
  simp only [List.getElem?_toArray, List.getElem?_cons_zero, List.getElem?_cons_succ] at q0 q1
  cases hv : codeOk a b
  · clear hv
    go_wp2_with fail
    refine (codeValid_any 8 0 _).mono ?_
    rintro e w4 ⟨rfl, b4⟩
    have HB4 := hide (HB3.out.trans (b4.mono HB3.out.size))
    clear b4 q0 q1
    rw [HV8.out]
    go_wp2_with fail
    refine (alive_any _).mono ?_
    rintro e w' ⟨rfl, rfl⟩
    go_wp2_with fail
    go_ret
    exact ⟨rfl, HB4.out⟩
  · have HA := hide (HVA.out hv)
    clear hv
    go_wp2_with fail
    refine (codeValid_any 8 0 _).mono ?_
    rintro e w4 ⟨rfl, b4⟩
    have HX4 := hide (HX3.out.call b4)
    have HB4 := hide (HB3.out.trans (b4.mono HB3.out.size))
    clear b4 q0 q1
    have q0 := HX4.out.cell 0
    simp only [List.getElem?_toArray, List.getElem?_cons_zero, List.getElem?_cons_succ] at q0
    rw [HV8.out]
    go_wp2_with fail
    refine (codeValid_any a 0 _).mono ?_
    rintro e w5 ⟨rfl, b5⟩
    have HB5 := hide (HB4.out.trans (b5.mono HB4.out.size))
    clear b5 q0
    rw [HA.out]
    go_wp2_with fail
    refine (alive_any _).mono ?_
    rintro e w' ⟨rfl, rfl⟩
    go_wp2_with fail
    go_ret
    exact ⟨rfl, HB5.out⟩
end Go.Proofs.Ytckfffhionhnkaa.WFnCodeValid
