/- The walk of FnGetRows: read rows are written so. -/
import Derived.Test.YtndnmbhhfiacaaaDRows
import Derived.Test.YtndnmbhhfiacaaaDBent
import Derived.Test.YtndnmbhhfiacaaaCGetRows
import Derived.Test.YtndnmbhhfiacaaaPBack
import Derived.Test.YtndnmbhhfiacaaaCSame
import Derived.Test.YtndnmbhhfiacaaaCLines
import Derived.Test.YtndnmbhhfiacaaaCAlive
namespace Go.Proofs.Ytndnmbhhfiacaaa.WFnGetRows
set_option maxRecDepth 200000
open Go.ChangeShapes Go.WideShapes Go.ChangeAt Go.RowKit Kit CCode CRows CRowsValid CPutRows PGetRows CGetRows PBack CSame CLines DPick DVar DRows DBent CAlive
theorem draw_any {A : Option Addr} {zs : List Int} {c : Nat} {w : World} (hr : Rd w w.heap.size A (ints .u8 zs)) (hz : InR 0 255 zs) (hc : zs.length ≤ c) (hcm : c ≤ maxLen) :
    Calls Try.prog 95 #[.slice A zs.length c] w (fun e w' => ∃ (A' : Option Addr) (ys : List Int) (c' : Nat), e = .returned (.slice A' ys.length c') ∧ ys.length ≤ 3000 ∧ InR 0 255 ys ∧ w'.ownsRow w.heap.size 5 1 (.slice A' ys.length c') ys.length (ints .u8 ys) ∧ Below w.heap.size w w') := by
  have HO := hide (open_any A zs c w hr hz hc hcm)
  clear hr hz hc hcm
  go_enter Try.func95, Try.ntmps95
  go_wp2_with fail
  refine HO.out.mono ?_
  rintro e w1 ⟨R, rfl, T, b1⟩
  have T0 := Tp.start T
  have hRl := T.1
  have HB := hide b1
  clear T b1
  go_wp2_with fail
  refine (rows_any T0 (by omega) (by omega) _ (by omega) (by omega)).mono ?_
  rintro e w2 ⟨A2, ys, c2, rfl, y0, y1, o2, T2⟩
  have HO2 := hide o2
  have hyM : ys.length ≤ maxLen := by unfold maxLen; omega
  clear o2 T0 HO y1
  go_wp2_with fail
  refine (putRowsS_any A2 ys c2 w2 (Rd.of_own HO2.out) hyM).mono ?_
  rintro e w3 ⟨A3, c3, rfl, o3, b3⟩
  have T3 := T2.call b3
  have HO3 := hide o3
  have hs3 := T3.2.size
  obtain ⟨hsl, hsi⟩ := putRows_bd ys
  have HSI := hide hsi
  clear o3 b3 HO2 hsi T2
  generalize prows ys = ss at *
  go_wp2_with fail
  refine (bent_any T3 (by omega) (by omega) A3 ss c3 _ (Rd.of_own HO3.out) (Nat.le_refl _) HSI.out (by omega) (own_nil HO3.out)).mono ?_
  rintro e w5 ⟨A5, zs5, c5, rfl, z0, z1, o5, T5⟩
  have HO5 := hide (own_base o5 (Nat.le_trans HB.out.size hs3))
  have HT5 := hide T5
  have HZ := hide z1
  clear o5 T3 T5 HO3 z1
  go_wp2_with fail
  go_ret
  exact ⟨A5, zs5, c5, rfl, by omega, HZ.out, HO5.out, HB.out.trans (HT5.out.below HB.out.size hRl)⟩
theorem walk (A : Option Addr) (zs : List Int) (c : Nat) (hl : zs.length ≤ c) (hc : c ≤ maxLen) (hz : InR 0 255 zs) (w : World) (hr : Rd w w.heap.size A (ints .u8 zs)) :
    Calls Try.prog 22 #[.slice A zs.length c] w (LawEnds w) := by
  have hcm := hc
  unfold maxLen at hcm
  have HD := hide (draw_any hr hz hl hc)
  clear hr hz hc
  by_cases hbig : 1048576 < zs.length
  · go_enter Try.func22, Try.ntmps22
    go_wp2_with fail
    go_ret
    exact ⟨rfl, Below.refl _ _⟩
  go_enter Try.func22, Try.ntmps22
  go_wp2_with fail
  refine HD.out.mono ?_
  rintro e w1 ⟨A1, ys, c1, rfl, l1, r1, o1, b1⟩
  have HB := hide b1
  have HO := hide o1
  have HR := hide r1
  have hym : ys.length ≤ 1048576 := by omega
  have hyM : ys.length ≤ maxLen := by unfold maxLen; omega
  have hcap := own_cap HO.out
  clear b1 o1 r1
  go_wp2_with fail
  refine (getRows_any A1 ys c1 w1 (Rd.of_own HO.out) HR.out hym hcap).mono ?_
  rintro e w2 ⟨A2, c2, rfl, o2, b2⟩
  have HX2 := hide (own_base o2 HB.out.size)
  have HO2 := hide (own_call b2 HO.out)
  have HB2 := hide (HB.out.trans (b2.mono HB.out.size))
  clear o2 b2 HO HB
  go_wp2_with fail
  refine (getRowsS_any A1 ys c1 w2 (Rd.of_own HO2.out) HR.out hym hcap).mono ?_
  rintro e w3 ⟨A3, c3, rfl, o3, b3⟩
  have HR3 := hide (Rd.of_own o3)
  have HX3 := hide (own_call b3 HX2.out)
  have HO3 := hide (own_call b3 HO2.out)
  have HB3 := hide (HB2.out.trans (b3.mono HB2.out.size))
  have hgl := getRows_len ys
  have hsM : (growsOf ys).1.length ≤ maxLen := by unfold maxLen; omega
  clear o3 b3 HX2 HO2 HB2
  go_wp2_with fail
  refine (sameLines_same A2 A3 (growsOf ys).1 c2 c3 w3.heap.size w3 (Rd.of_own HX3.out) HR3.out hsM).mono ?_
  rintro e w' ⟨rfl, m, rfl⟩
  have HB4 := hide (Kit.Below.drewN HB3.out m)
  have HX4 := hide (own_drawn (w' := w3.drewN m) HX3.out rfl)
  have HO4 := hide (own_drawn (w' := w3.drewN m) HO3.out rfl)
  generalize w3.drewN m = w4 at *
  clear HR3 HB3 HX3 HO3
  cases hv : gOpt ys with
  | none =>
    obtain ⟨e1, e2⟩ := grows_none hv
    rw [e1, e2]
    clear e1 e2 hv HX4 HO4
    go_wp2_with fail
    refine (alive_any w4).mono ?_
    rintro e w' ⟨rfl, rfl⟩
    go_wp2_with fail
    go_ret
    exact ⟨rfl, HB4.out⟩
  | some r =>
    obtain ⟨e1, e2⟩ := grows_some hv
    obtain ⟨hok, hpr⟩ := gOpt_inv HR.out hv
    rw [e1] at HX4 hgl hsM
    rw [e1, e2]
    clear e1 e2
    by_cases hn0 : ys.length = 0
    · have hrl : r.length = 0 := by
        have := prs_len (good_of hok)
        rw [prows, if_pos hok] at hpr
        rw [hpr] at this
        omega
      have hrn : r = [] := List.eq_nil_of_length_eq_zero hrl
      subst hrn
      have hyn : ys = [] := List.eq_nil_of_length_eq_zero hn0
      subst hyn
      clear hn0 hrl hpr hok hv HX4 HO4
      go_wp2_with fail
      go_ret
      exact ⟨rfl, HB4.out⟩
    · obtain ⟨g, rfl⟩ := own_form HO4.out hn0
      obtain ⟨k, hk⟩ : ∃ k, ys.length = k + 1 := ⟨ys.length - 1, by omega⟩
      have hless := gOpt_less HR.out hv (by omega)
      rw [show ys.length - 1 = k by omega] at hless
      obtain ⟨e3, e4⟩ := grows_none hless
      have hlk : (ys.take k).length = k := by rw [List.length_take]; omega
      have HRT := hide (show InR 0 255 (ys.take k) from fun x hx => HR.out x (List.mem_of_mem_take hx))
      have HGL := hide (fun (w : World) hr => getRows_any (some ⟨g, 0, none⟩) (ys.take k) c1 w hr HRT.out (by rw [hlk]; omega) (by rw [hlk]; omega))
      rw [e3, e4, hlk] at HGL
      have HPR := hide hpr
      have hne : ((ys.length : Int) == 0) = false := beq_eq_false_iff_ne.2 (by omega)
      have hlen : (ys.length : Int) = (k : Int) + 1 := by omega
      have hkc : k ≤ c1 := by omega
      have HRS := hide ((Rd.of_own HO4.out).slice 0 k (by omega)).1
      simp only [Nat.add_zero, List.drop_zero] at HRS
      have HK := hide hk
      clear hn0 hless e3 e4 hlk hpr hok hv hlen
      go_wp2_with fail
      refine (HGL.out w4 HRS.out).mono ?_
      rintro e w5 ⟨A5, c5, rfl, o5, b5⟩
      have HX5 := hide (own_call b5 HX4.out)
      have HO5 := hide (own_call b5 HO4.out)
      have HB5 := hide (HB4.out.trans (b5.mono HB4.out.size))
      clear o5 b5 HX4 HO4 HB4 HGL HRS
      go_wp2_with fail
      refine (putRows_any A2 r c2 w5 (Rd.of_own HX5.out) hsM).mono ?_
      rw [HPR.out]
      rintro e w6 ⟨A6, c6, rfl, o6, b6⟩
      have HR6 := hide (Rd.of_own o6)
      have HO6 := hide (own_call b6 HO5.out)
      have HB6 := hide (HB5.out.trans (b6.mono HB5.out.size))
      clear o6 b6 HX5 HO5 HB5
      have hsb := sameBytes_any A6 (some ⟨g, 0, none⟩) ys ys c6 c1 w6.heap.size w6 HR6.out (Rd.of_own HO6.out) hyM hyM
      rw [HK.out] at hsb ⊢
      have HSB := hide hsb
      clear hsb HR6 HO6 hk hyM hym hcap
      go_wp2_with fail
      refine HSB.out.mono ?_
      rintro e w' ⟨rfl, m, rfl⟩
      rw [beq_self_eq_true]
      have HB7 := hide (Kit.Below.drewN HB6.out m)
      go_wp2_with fail
      go_ret
      exact ⟨rfl, HB7.out⟩
end Go.Proofs.Ytndnmbhhfiacaaa.WFnGetRows
