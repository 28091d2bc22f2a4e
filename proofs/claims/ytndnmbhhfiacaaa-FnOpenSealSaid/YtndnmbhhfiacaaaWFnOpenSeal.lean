/- The walk of FnOpenSeal: opened bytes can be sealed. -/
import Derived.Test.YtndnmbhhfiacaaaDBent
import Derived.Test.YtndnmbhhfiacaaaCSeal
import Derived.Test.YtndnmbhhfiacaaaCSame
import Derived.Test.YtndnmbhhfiacaaaCAlive
namespace Go.Proofs.Ytndnmbhhfiacaaa.WFnOpenSeal
set_option maxRecDepth 200000
open Go.ChangeShapes Go.WideShapes Go.ChangeAt Go.RowKit Kit CCode CSumOf CNumber PSeal CSeal CSame DPick DVar DBytes DBent CAlive
theorem draw_any {A : Option Addr} {zs : List Int} {c : Nat} {w : World} (hr : Rd w w.heap.size A (ints .u8 zs)) (hz : InR 0 255 zs) (hc : zs.length ≤ c) (hcm : c ≤ maxLen) :
    Calls Try.prog 74 #[.slice A zs.length c] w (fun e w' => ∃ (A' : Option Addr) (ys : List Int) (c' : Nat), e = .returned (.slice A' ys.length c') ∧ ys.length ≤ 3000 ∧ InR 0 255 ys ∧ w'.ownsRow w.heap.size 5 1 (.slice A' ys.length c') ys.length (ints .u8 ys) ∧ Below w.heap.size w w') := by
  have HO := hide (open_any A zs c w hr hz hc hcm)
  clear hr hz hc hcm
  go_enter Try.func74, Try.ntmps74
  go_wp2_with fail
  refine HO.out.mono ?_
  rintro e w1 ⟨R, rfl, T, b1⟩
  have T0 := Tp.start T
  have hRl := T.1
  have HB := hide b1
  clear T b1
  go_wp2_with fail
  refine (bytes_any T0 (by omega) (by omega) 12 (by omega)).mono ?_
  rintro e w2 ⟨A2, ys, c2, rfl, y0, y1, o2, T2⟩
  have HO2 := hide o2
  have HY := hide y1
  have hR1 := T0.lt
  clear o2 y1 T0 HO
  go_wp2_with fail
  refine (sealBytesS_any A2 ys c2 _ w2 (Rd.of_own HO2.out) (Nat.le_refl _) HY.out (by omega) (own_nil HO2.out)).mono ?_
  rintro e w3 ⟨A3, c3, rfl, o3, b3⟩
  have T3 := T2.call b3
  have hR2 := T2.lt
  have HO3 := hide o3
  have hs2 := Nat.le_trans HB.out.size T2.2.size
  obtain ⟨hsl, hsi⟩ := sealed_bd ys HY.out
  have HSI := hide hsi
  clear o3 b3 HO2 HY hsi T2
  generalize sealed ys = ss at *
  go_wp2_with fail
  refine (odd_tp (by first | with_reducible assumption | exact Tp.alloc (by with_reducible assumption) _ | exact Tp.alloc (Tp.alloc (by with_reducible assumption) _) _ | exact Tp.drewN (by with_reducible assumption) _ | exact Tp.drew (by with_reducible assumption) | exact Tp.drawn (by with_reducible assumption) | exact Tp.alloc (Tp.drewN (by with_reducible assumption) _) _ | exact Tp.alloc (Tp.drew (by with_reducible assumption)) _ | exact Tp.alloc (Tp.alloc (Tp.alloc (by with_reducible assumption) _) _) _) (by omega) _ (by omega) (by omega)).mono ?_
  rintro e w4 ⟨bo, rfl, T4, g4⟩
  have HO4 := hide (own_pick HO3.out g4 hR2)
  clear T3 g4 HO3
  cases bo
  · have HT4 := hide T4
    clear T4
    go_wp2_with fail
    go_ret
    exact ⟨A3, ss, c3, rfl, by omega, HSI.out, own_base HO4.out hs2, HB.out.trans (HT4.out.below HB.out.size hRl)⟩
  · have hs4 := T4.2.size
    go_wp2_with fail
    refine (bent_any T4 (by omega) (by omega) A3 ss c3 _ (Rd.of_own HO4.out) (Nat.le_refl _) HSI.out (by omega) (own_nil HO4.out)).mono ?_
    rintro e w5 ⟨A5, zs5, c5, rfl, z0, z1, o5, T5⟩
    have HO5 := hide (own_base o5 (Nat.le_trans HB.out.size hs4))
    have HT5 := hide T5
    have HZ := hide z1
    clear o5 T4 T5 HO4 z1
    go_wp2_with fail
    go_ret
    exact ⟨A5, zs5, c5, rfl, by omega, HZ.out, HO5.out, HB.out.trans (HT5.out.below HB.out.size hRl)⟩
theorem sealed_back {zs : List Int} (h : openOk zs = true) : sealed (zs.take (zs.length - 2)) = zs := by
  unfold openOk at h
  rw [Bool.and_eq_true] at h
  exact of_decide_eq_true h.2
theorem walk (A : Option Addr) (zs : List Int) (c : Nat) (hl : zs.length ≤ c) (hc : c ≤ maxLen) (hz : InR 0 255 zs) (w : World) (hr : Rd w w.heap.size A (ints .u8 zs)) :
    Calls Try.prog 18 #[.slice A zs.length c] w (LawEnds w) := by
  have hcm := hc
  unfold maxLen at hcm
  have HD := hide (draw_any hr hz hl hc)
  clear hr hz hc
  by_cases hbig : 1048576 < zs.length
  · go_enter Try.func18, Try.ntmps18
    go_wp2_with fail
    go_ret
    exact ⟨rfl, Below.refl _ _⟩
  go_enter Try.func18, Try.ntmps18
  go_wp2_with fail
  refine HD.out.mono ?_
  rintro e w1 ⟨A1, ys, c1, rfl, l1, r1, o1, b1⟩
  have HB := hide b1
  have HO := hide o1
  have HR := hide r1
  have hym : ys.length ≤ 1048576 := by omega
  have hyM : ys.length ≤ maxLen := by unfold maxLen; omega
  have hcap := own_cap HO.out
  clear b1 o1 r1
  go_wp2_with fail
  refine (openSeal_any A1 ys c1 _ w1 (Rd.of_own HO.out) (Nat.le_refl _) HR.out hym hcap).mono ?_
  rintro e w2 ⟨A2, c2, rfl, o2, b2⟩
  have HX2 := hide (own_base o2 HB.out.size)
  have HO2 := hide (own_call b2 HO.out)
  have HB2 := hide (HB.out.trans (b2.mono HB.out.size))
  clear o2 b2 HO HB
  go_wp2_with fail
  refine (openSealS_any A1 ys c1 _ w2 (Rd.of_own HO2.out) (Nat.le_refl _) HR.out hym hcap).mono ?_
  rintro e w3 ⟨A3, c3, rfl, o3, b3⟩
  have HR3 := hide (Rd.of_own o3)
  have HX3 := hide (own_call b3 HX2.out)
  have HO3 := hide (own_call b3 HO2.out)
  have HB3 := hide (HB2.out.trans (b3.mono HB2.out.size))
  obtain ⟨hsl, hsi⟩ := opened_bd ys HR.out
  have hsM : (opened ys).1.length ≤ maxLen := by unfold maxLen; omega
  have HSI := hide hsi
  clear o3 b3 HX2 HO2 HB2 hsi
  go_wp2_with fail
  refine (sameBytes_any A2 A3 (opened ys).1 (opened ys).1 c2 c3 w3.heap.size w3 (Rd.of_own HX3.out) HR3.out hsM hsM).mono ?_
  rintro e w' ⟨rfl, m, rfl⟩
  rw [beq_self_eq_true]
  have HB4 := hide (Kit.Below.drewN HB3.out m)
  have HX4 := hide (own_drawn (w' := w3.drewN m) HX3.out rfl)
  have HO4 := hide (own_drawn (w' := w3.drewN m) HO3.out rfl)
  generalize w3.drewN m = w4 at *
  clear HR3 HB3 HX3 HO3
  cases hv : openOk ys
  · obtain ⟨e1, e2⟩ := opened_no hv
    rw [e1, e2]
    clear e1 e2 hv HX4 HO4 HSI
    go_wp2_with fail
    refine (alive_any w4).mono ?_
    rintro e w' ⟨rfl, rfl⟩
    go_wp2_with fail
    go_ret
    exact ⟨rfl, HB4.out⟩
  · obtain ⟨e1, e2⟩ := opened_yes hv
    have hs := sealed_back hv
    rw [e1] at HX4 HSI hsl hsM
    rw [e1, e2]
    have HS := hide hs
    clear e1 e2 hv hs
    generalize ys.take (ys.length - 2) = ts at *
    go_wp2_with fail
    refine (sealBytes_any A2 ts c2 _ w4 (Rd.of_own HX4.out) (Nat.le_refl _) HSI.out (by omega) (own_nil HX4.out)).mono ?_
    rw [HS.out]
    rintro e w5 ⟨A5, c5, rfl, o5, b5⟩
    have HX5 := hide (Rd.of_own o5)
    have HO5 := hide (own_call b5 HO4.out)
    have HB5 := hide (HB4.out.trans (b5.mono HB4.out.size))
    clear o5 b5 HX4 HO4 HB4
    go_wp2_with fail
    refine (sameBytes_any A5 A1 ys ys c5 c1 w5.heap.size w5 HX5.out (Rd.of_own HO5.out) hyM hyM).mono ?_
    rintro e w' ⟨rfl, m, rfl⟩
    rw [beq_self_eq_true]
    have HB6 := hide (Kit.Below.drewN HB5.out m)
    clear HX5 HO5
    go_wp2_with fail
    go_ret
    exact ⟨rfl, HB6.out⟩
end Go.Proofs.Ytndnmbhhfiacaaa.WFnOpenSeal
