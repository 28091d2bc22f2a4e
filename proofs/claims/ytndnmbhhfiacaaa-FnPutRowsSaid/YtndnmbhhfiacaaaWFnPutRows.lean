/- The walk of FnPutRows: rows can be read. -/
import Derived.Test.YtndnmbhhfiacaaaDRows
import Derived.Test.YtndnmbhhfiacaaaCGetRows
import Derived.Test.YtndnmbhhfiacaaaPBack
import Derived.Test.YtndnmbhhfiacaaaCSame
import Derived.Test.YtndnmbhhfiacaaaCLines
import Derived.Test.YtndnmbhhfiacaaaCAlive
namespace Go.Proofs.Ytndnmbhhfiacaaa.WFnPutRows
set_option maxRecDepth 200000
open Go.ChangeShapes Go.WideShapes Go.ChangeAt Go.RowKit Kit CCode CRows CRowsValid CPutRows PGetRows CGetRows PBack CSame CLines DPick DVar DRows CAlive
theorem draw_any {A : Option Addr} {zs : List Int} {c : Nat} {w : World} (hr : Rd w w.heap.size A (ints .u8 zs)) (hz : InR 0 255 zs) (hc : zs.length ≤ c) (hcm : c ≤ maxLen) :
    Calls Try.prog 75 #[.slice A zs.length c] w (fun e w' => ∃ (A' : Option Addr) (ys : List CRows.D) (c' : Nat), e = .returned (.slice A' ys.length c') ∧ ys.length ≤ 7 ∧ w'.ownsRow w.heap.size 31 2 (.slice A' ys.length c') ys.length (cellsOf rowC ys) ∧ Below w.heap.size w w') := by
  have HO := hide (open_any A zs c w hr hz hc hcm)
  clear hr hz hc hcm
  go_enter Try.func75, Try.ntmps75
  go_wp2_with fail
  refine HO.out.mono ?_
  rintro e w1 ⟨R, rfl, T, b1⟩
  have T0 := Tp.start T
  have hRl := T.1
  have HB := hide b1
  clear T b1
  go_wp2_with fail
  refine (rows_any T0 (by omega) (by omega) _ (by omega) (by omega)).mono ?_
  rintro e w2 ⟨A', ys, c', rfl, y0, y1, o2, T2⟩
  go_wp2_with fail
  go_ret
  exact ⟨A', ys, c', rfl, y0, own_base o2 HB.out.size, HB.out.trans (T2.below HB.out.size hRl)⟩
theorem walk (A : Option Addr) (zs : List Int) (c : Nat) (hl : zs.length ≤ c) (hc : c ≤ maxLen) (hz : InR 0 255 zs) (w : World) (hr : Rd w w.heap.size A (ints .u8 zs)) :
    Calls Try.prog 19 #[.slice A zs.length c] w (LawEnds w) := by
  have hcm := hc
  unfold maxLen at hcm
  have HD := hide (draw_any hr hz hl hc)
  clear hr hz hc
  by_cases hbig : 1048576 < zs.length
  · go_enter Try.func19, Try.ntmps19
    go_wp2_with fail
    go_ret
    exact ⟨rfl, Below.refl _ _⟩
  go_enter Try.func19, Try.ntmps19
  go_wp2_with fail
  refine HD.out.mono ?_
  rintro e w1 ⟨A1, ys, c1, rfl, l1, o1, b1⟩
  have HB := hide b1
  have HO := hide o1
  have hyM : ys.length ≤ maxLen := by unfold maxLen; omega
  clear b1 o1
  go_wp2_with fail
  refine (putRows_any A1 ys c1 w1 (Rd.of_own HO.out) hyM).mono ?_
  rintro e w2 ⟨A2, c2, rfl, o2, b2⟩
  have HX2 := hide (own_base o2 HB.out.size)
  have HO2 := hide (own_call b2 HO.out)
  have HB2 := hide (HB.out.trans (b2.mono HB.out.size))
  clear o2 b2 HO HB
  go_wp2_with fail
  refine (putRowsS_any A1 ys c1 w2 (Rd.of_own HO2.out) hyM).mono ?_
  rintro e w3 ⟨A3, c3, rfl, o3, b3⟩
  have HR3 := hide (Rd.of_own o3)
  have HX3 := hide (own_call b3 HX2.out)
  have HO3 := hide (own_call b3 HO2.out)
  have HB3 := hide (HB2.out.trans (b3.mono HB2.out.size))
  obtain ⟨hsl, hsi⟩ := putRows_bd ys
  have hsM : (prows ys).length ≤ maxLen := by unfold maxLen; omega
  have HSI := hide hsi
  clear o3 b3 HX2 HO2 HB2 hsi
  go_wp2_with fail
  refine (sameBytes_any A2 A3 (prows ys) (prows ys) c2 c3 w3.heap.size w3 (Rd.of_own HX3.out) HR3.out hsM hsM).mono ?_
  rintro e w' ⟨rfl, m, rfl⟩
  rw [beq_self_eq_true]
  have HB4 := hide (Kit.Below.drewN HB3.out m)
  have HX4 := hide (own_drawn (w' := w3.drewN m) HX3.out rfl)
  have HO4 := hide (own_drawn (w' := w3.drewN m) HO3.out rfl)
  generalize w3.drewN m = w4 at *
  clear HR3 HB3 HX3 HO3
  go_wp2_with fail
  refine (rowsValidS_any A1 ys c1 w4 (Rd.of_own HO4.out) hyM).mono ?_
  rintro e w5 ⟨rfl, b5⟩
  have HX5 := hide (own_call b5 HX4.out)
  have HO5 := hide (own_call b5 HO4.out)
  have HB5 := hide (HB4.out.trans (b5.mono HB4.out.size))
  clear b5 HX4 HO4 HB4
  cases hv : rowsOk ys
  · rw [prows_none hv]
    clear hv HX5 HO5
    go_wp2_with fail
    refine (alive_any _).mono ?_
    rintro e w' ⟨rfl, rfl⟩
    go_wp2_with fail
    go_ret
    exact ⟨rfl, HB5.out⟩
  · have hg := gOpt_prows hv
    have hcap := own_cap HX5.out
    have HG := hide (getRows_any A2 (prows ys) c2 w5 (Rd.of_own HX5.out) HSI.out (by omega) hcap)
    rw [(grows_some hg).1, (grows_some hg).2] at HG
    generalize prows ys = bs at *
    clear hg hv hcap
    go_wp2_with fail
    refine HG.out.mono ?_
    rintro e w6 ⟨A6, c6, rfl, o6, b6⟩
    have HX6 := hide (Rd.of_own o6)
    have HO6 := hide (own_call b6 HO5.out)
    have HB6 := hide (HB5.out.trans (b6.mono HB5.out.size))
    clear o6 b6 HX5 HO5 HB5 HG
    go_wp2_with fail
    refine (sameLines_same A6 A1 ys c6 c1 _ w6 HX6.out (Rd.of_own HO6.out) hyM).mono ?_
    rintro e w' ⟨rfl, m, rfl⟩
    have HB7 := hide (Kit.Below.drewN HB6.out m)
    clear HX6 HO6
    go_wp2_with fail
    go_ret
    exact ⟨rfl, HB7.out⟩
end Go.Proofs.Ytndnmbhhfiacaaa.WFnPutRows
