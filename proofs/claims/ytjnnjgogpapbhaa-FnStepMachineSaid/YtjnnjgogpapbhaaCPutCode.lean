/- Contracts of PutCode and GetCode, the program's and the reference's. -/
import Derived.Test.YtjnnjgogpapbhaaCNumber
namespace Go.Proofs.Ytjnnjgogpapbhaa.CPutCode
set_option maxRecDepth 200000
open Go.ChangeShapes Go.WideShapes Go.ChangeAt Go.RowKit Kit CCode CNumber
def pcode (a b : Int) : List Int := if codeOk a b then a :: (if hasArgB a then putL 2 b else []) else []
theorem putCodeS_any (a b : Int) (w : World) : Calls Try.prog 81 #[.agg #[.int .i64 a, .int .i64 b]] w (RetInts 5 .u8 (pcode a b) w) := by
  obtain ⟨i0, hi, hz0, hz1, hz2⟩ := info_parts info8
  cases hv : codeOk a b
  · rw [show pcode a b = [] by rw [pcode, hv]; rfl]
    go_enter Try.func81, Try.ntmps81
    go_wp2_with fail
    refine (codeValidS_any a b _).mono ?_
    rintro e w1 ⟨rfl, hb1⟩
    rw [hv]
    have HB := hide ((show Below w.heap.size w (w.alloc (.cells #[.int .i64 a, .int .i64 b] 78)) from (by repeat (first | exact Below.refl _ _ | with_reducible assumption | (refine Below.drew ?_) | (refine Below.drewN ?_ _) | (refine Below.alloc ?_ (by simp; try omega) _) | (refine Below.setCell ?_ (by simp; try omega) _)))).trans (hb1.mono (by simp)))
    clear hb1
    go_wp2_with fail
    go_ret
    exact RetInts.mk rfl (own_emptyAt HB.out.size) (HB.out.alloc HB.out.size _)
  · have hok := hv
    simp only [codeOk, decide_eq_true_eq] at hok
    have X := Box.new w 78 #[.int .i64 a, .int .i64 b]
    have HX := hide X
    clear X
    cases hA : hasArgB a
    · have HP := hide (show pcode a b = [a] by rw [pcode, hv, hA]; rfl)
      have HV := hide hv
      clear hv
      go_enter Try.func81, Try.ntmps81
      go_wp2_with fail
      refine (codeValidS_any a b _).mono ?_
      rintro e w1 ⟨rfl, hb1⟩
      rw [HV.out]
      have X1 := HX.out.call hb1
      have q0 := X1.cell 0
      have q1 := X1.cell 1
      simp only [List.getElem?_toArray, List.getElem?_cons_zero, List.getElem?_cons_succ] at q0 q1
      have HB := hide ((show Below w.heap.size w (w.alloc (.cells #[.int .i64 a, .int .i64 b] 78)) from (by repeat (first | exact Below.refl _ _ | with_reducible assumption | (refine Below.drew ?_) | (refine Below.drewN ?_ _) | (refine Below.alloc ?_ (by simp; try omega) _) | (refine Below.setCell ?_ (by simp; try omega) _)))).trans (hb1.mono (by simp)))
      have hg1 := X1.lt
      obtain ⟨a0, a1, b0, b1, _⟩ := hok
      clear hb1 X1
      have hmod : a % 256 = a := by omega
      have HO := hide (World.ownsRow_lit (base := w.heap.size) (e := 5) (size := 1) w1 #[.int .u8 a] 1 HB.out.size (by unfold maxLen; omega) rfl)
      have HB1 := hide (HB.out.alloc HB.out.size (.cells #[.int .u8 a] 5))
      go_wp2_with (go_at_call 73; refine (l29Has_any _ _).mono ?_; rintro e w' ⟨rfl, rfl⟩)
      go_ret
      exact HP.out ▸ RetInts.mk rfl HO.out HB1.out
    · have HP := hide (show pcode a b = [a] ++ putL 2 b by rw [pcode, hv, hA]; rfl)
      have HV := hide hv
      clear hv
      go_enter Try.func81, Try.ntmps81
      go_wp2_with fail
      refine (codeValidS_any a b _).mono ?_
      rintro e w1 ⟨rfl, hb1⟩
      rw [HV.out]
      have X1 := HX.out.call hb1
      have q0 := X1.cell 0
      have q1 := X1.cell 1
      simp only [List.getElem?_toArray, List.getElem?_cons_zero, List.getElem?_cons_succ] at q0 q1
      have HB := hide ((show Below w.heap.size w (w.alloc (.cells #[.int .i64 a, .int .i64 b] 78)) from (by repeat (first | exact Below.refl _ _ | with_reducible assumption | (refine Below.drew ?_) | (refine Below.drewN ?_ _) | (refine Below.alloc ?_ (by simp; try omega) _) | (refine Below.setCell ?_ (by simp; try omega) _)))).trans (hb1.mono (by simp)))
      have hg1 := X1.lt
      obtain ⟨a0, a1, b0, b1, _⟩ := hok
      clear hb1 X1
      have hmod : a % 256 = a := by omega
      have HO := hide (World.ownsRow_lit (base := w.heap.size) (e := 5) (size := 1) w1 #[.int .u8 a] 1 HB.out.size (by unfold maxLen; omega) rfl)
      have HB1 := hide (HB.out.alloc HB.out.size (.cells #[.int .u8 a] 5))
      have HN := hide (show pnum b 2 = putL 2 b by rw [pnum, if_pos ⟨by decide, inB_t ⟨b0, b1⟩⟩]; rfl)
      go_wp2_with (go_at_call 73; refine (l29Has_any _ _).mono ?_; rintro e w' ⟨rfl, rfl⟩)
      refine (putNumberS_any b 2 _).mono ?_
      rw [HN.out]
      rintro e w3 ⟨A3, c3, rfl, ho3, hb3⟩
      have HO3 := hide ho3
      have HOO := hide (own_call hb3 HO.out)
      have HB3 := hide (HB1.out.trans (hb3.mono HB1.out.size))
      have hl2 : (putL 2 b).length = 2 := rfl
      rw [hl2] at HO3 ⊢
      have HL2 := hide hl2
      clear ho3 hb3 hl2
      go_wp2_with (at_builtin; refine wpList_appO _ rfl (.tmp 15) (.tmp 18) 22 rfl w.heap.size _ 5 i0 (.int .u8 0) 1 1 Try.underlying22 hi hz0 hz1 hz2 rfl (by decide) _ _ _ _ rfl HO3.out (ints_oneCell _ _) _ _ _ rfl HOO.out ?n1 ?n2 ?n3 ?_)
      case n1 => unfold maxLen; omega
      case n2 => omega
      case n3 => exact HB3.out.size
      intro A' n' c' w' hn' ho' hg'
      subst hn'
      have HO' := hide ho'
      have HB' := hide (HB3.out.grown hg' HB3.out.size (fun k hk => (HOO.out.lt k hk).1))
      clear ho' hg'
      go_wp2_with fail
      go_ret
      exact HP.out ▸ RetInts.mk rfl (by simpa [ints] using HO'.out) HB'.out
/-- The instruction that stands at a place, and the place behind it. -/
def gcode (zs : List Int) (at_ : Int) : Int × Int × Int :=
  if inB at_ 0 (zs.length - 1) then
    (if hasArgB (zs.getD at_.toNat 0) then
      (if codeOk (zs.getD at_.toNat 0) (gnum zs (at_ + 1) 2) then (zs.getD at_.toNat 0, gnum zs (at_ + 1) 2, at_ + 3) else (0, 0, -1))
    else (if codeOk (zs.getD at_.toNat 0) 0 then (zs.getD at_.toNat 0, 0, at_ + 1) else (0, 0, -1)))
  else (0, 0, -1)
def gval (r : Int × Int × Int) : Value := .tuple #[.agg #[.int .i64 r.1, .int .i64 r.2.1], .int .i64 r.2.2]
theorem getCode_any (A : Option Addr) (zs : List Int) (c : Nat) (at_ : Int) (w : World) (hr : Rd w w.heap.size A (ints .u8 zs)) (hz : InR 0 255 zs) (hm : zs.length ≤ 1048576) :
    Calls Try.prog 56 #[.slice A zs.length c, .int .i64 at_] w (Ret (gval (gcode zs at_)) w) := by
  by_cases ha : 0 ≤ at_ ∧ at_ ≤ (zs.length : Int) - 1
  · have hb := inB_t ha
    obtain ⟨a, rfl⟩ := Int.eq_ofNat_of_zero_le ha.1
    have hlt : a < zs.length := by omega
    obtain ⟨b, off, rfl, hbw, hc0⟩ := hr.int hlt
    obtain ⟨x0, x1⟩ := hz.at_ hlt
    have hgd : zs.getD ((a : Int)).toNat 0 = zs[a] := by rw [Int.toNat_natCast, List.getD_eq_getElem?_getD, List.getElem?_eq_getElem hlt]; rfl
    have HG := hide (show gcode zs a = (if hasArgB zs[a] then (if codeOk zs[a] (gnum zs (a + 1) 2) then (zs[a], gnum zs (a + 1) 2, (a : Int) + 3) else (0, 0, -1)) else (if codeOk zs[a] 0 then (zs[a], 0, (a : Int) + 1) else (0, 0, -1))) by
      unfold gcode
      rw [if_pos hb, hgd])
    have HR := hide hr
    have HZ := hide hz
    clear ha hr hz hgd
    generalize zs[a] = x at *
    go_enter Try.func56, Try.ntmps56
    cases hA : hasArgB x
    · go_wp2_with (first | (go_at_call 38; refine (within_any _ _ _ _).mono ?_; rintro e w' ⟨rfl, rfl⟩) | (go_at_call 76; refine (hasArg_any _ _).mono ?_; rintro e w' ⟨rfl, rfl⟩) | (go_at_call 40; refine (l1In_any _ _ _ _).mono ?_; rintro e w' ⟨rfl, rfl⟩) | (go_at_call 73; refine (l29Has_any _ _).mono ?_; rintro e w' ⟨rfl, rfl⟩) | fail)
      have X0 := (Box.new w 78 #[.int .i64 0, .int .i64 0]).alloc (.cells #[.int .i64 x, .int .i64 0] 78)
      have L0 := Box.new (w.alloc (.cells #[.int .i64 0, .int .i64 0] 78)) 78 #[.int .i64 x, .int .i64 0]
      have HB0 : Hid (Below w.heap.size w ((w.alloc (.cells #[.int .i64 0, .int .i64 0] 78)).alloc (.cells #[.int .i64 x, .int .i64 0] 78))) := (by repeat (first | exact Below.refl _ _ | with_reducible assumption | (refine Below.drew ?_) | (refine Below.drewN ?_ _) | (refine Below.alloc ?_ (by simp; try omega) _) | (refine Below.setCell ?_ (by simp; try omega) _)))
      simp only [World.size_alloc] at L0
      refine (codeValid_any x 0 _).mono ?_
      rintro e w3 ⟨rfl, hb3⟩
      have X3 := X0.call hb3
      have L3 := L0.call hb3
      have q0 := X3.cell 0
      have q1 := X3.cell 1
      have qf := X3.frozen 0
      have qf1 := X3.frozen 1
      have l0 := L3.cell 0
      have l1 := L3.cell 1
      simp only [List.getElem?_toArray, List.getElem?_cons_zero, List.getElem?_cons_succ] at q0 q1 l0 l1
      have HB := hide (HB0.out.trans (hb3.mono HB0.out.size))
      clear X0 L0 X3 L3 hb3
      cases hok : codeOk x 0
      · have HV := hide (show gcode zs a = (0, 0, -1) by rw [HG.out, if_neg (by rw [hA]; simp) , hok]; rfl)
        clear hok
        go_wp2_with fail
        refine bodyPost_ret (v := .tuple #[.agg #[.int .i64 0, .int .i64 0], .int .i64 (-1)]) (by simp [results, Try.results56, go_sem, q0, q1]) rfl ⟨by rw [HV.out]; rfl, ?_⟩
        exact (HB.out.setCell (Nat.le_refl _) _).setCell (Nat.le_refl _) _
      · have HV := hide (show gcode zs a = (x, 0, (a : Int) + 1) by rw [HG.out, if_neg (by rw [hA]; simp) , hok]; rfl)
        clear hok
        go_wp2_with fail
        refine bodyPost_ret (v := .tuple #[.agg #[.int .i64 x, .int .i64 0], .int .i64 ((a : Int) + 1)]) (by simp [results, Try.results56, go_sem, q0, q1]) rfl ⟨by rw [HV.out]; rfl, ?_⟩
        exact (HB.out.setCell (Nat.le_refl _) _).setCell (Nat.le_refl _) _
    · have hB0 : Below w.heap.size w ((w.alloc (.cells #[.int .i64 0, .int .i64 0] 78)).alloc (.cells #[.int .i64 x, .int .i64 0] 78)) := (by repeat (first | exact Below.refl _ _ | with_reducible assumption | (refine Below.drew ?_) | (refine Below.drewN ?_ _) | (refine Below.alloc ?_ (by simp; try omega) _) | (refine Below.setCell ?_ (by simp; try omega) _)))
      have HR0 := hide ((HR.out.below hB0).more hB0.size)
      clear hB0
      go_wp2_with (first | (go_at_call 38; refine (within_any _ _ _ _).mono ?_; rintro e w' ⟨rfl, rfl⟩) | (go_at_call 76; refine (hasArg_any _ _).mono ?_; rintro e w' ⟨rfl, rfl⟩) | (go_at_call 40; refine (l1In_any _ _ _ _).mono ?_; rintro e w' ⟨rfl, rfl⟩) | (go_at_call 73; refine (l29Has_any _ _).mono ?_; rintro e w' ⟨rfl, rfl⟩) | fail)
      refine (getNumber_any _ zs c _ (a + 1) 2 _ HR0.out HZ.out (by omega)).mono ?_
      rintro e w' ⟨rfl, rfl⟩
      generalize hg : gnum zs ((a : Int) + 1) 2 = g at *
      have HGN := hide hg
      clear hg
      go_wp2_with fail
      have X0 := (Box.new w 78 #[.int .i64 0, .int .i64 0]).alloc (.cells #[.int .i64 x, .int .i64 g] 78)
      have L0 := Box.new (w.alloc (.cells #[.int .i64 0, .int .i64 0] 78)) 78 #[.int .i64 x, .int .i64 g]
      have HB0 : Hid (Below w.heap.size w ((w.alloc (.cells #[.int .i64 0, .int .i64 0] 78)).alloc (.cells #[.int .i64 x, .int .i64 g] 78))) := (by repeat (first | exact Below.refl _ _ | with_reducible assumption | (refine Below.drew ?_) | (refine Below.drewN ?_ _) | (refine Below.alloc ?_ (by simp; try omega) _) | (refine Below.setCell ?_ (by simp; try omega) _)))
      simp only [World.size_alloc] at L0
      refine (codeValid_any x g _).mono ?_
      rintro e w3 ⟨rfl, hb3⟩
      have X3 := X0.call hb3
      have L3 := L0.call hb3
      have q0 := X3.cell 0
      have q1 := X3.cell 1
      have qf := X3.frozen 0
      have qf1 := X3.frozen 1
      have l0 := L3.cell 0
      have l1 := L3.cell 1
      simp only [List.getElem?_toArray, List.getElem?_cons_zero, List.getElem?_cons_succ] at q0 q1 l0 l1
      have HB := hide (HB0.out.trans (hb3.mono HB0.out.size))
      clear X0 L0 X3 L3 hb3
      cases hok : codeOk x g
      · have HV := hide (show gcode zs a = (0, 0, -1) by rw [HG.out, if_pos hA , hok]; rfl)
        clear hok
        go_wp2_with fail
        refine bodyPost_ret (v := .tuple #[.agg #[.int .i64 0, .int .i64 0], .int .i64 (-1)]) (by simp [results, Try.results56, go_sem, q0, q1]) rfl ⟨by rw [HV.out]; rfl, ?_⟩
        exact (HB.out.setCell (Nat.le_refl _) _).setCell (Nat.le_refl _) _
      · have HV := hide (show gcode zs a = (x, g, (a : Int) + 3) by rw [HG.out, if_pos hA , hok]; rfl)
        clear hok
        go_wp2_with fail
        refine bodyPost_ret (v := .tuple #[.agg #[.int .i64 x, .int .i64 g], .int .i64 ((a : Int) + 3)]) (by simp [results, Try.results56, go_sem, q0, q1]) rfl ⟨by rw [HV.out]; rfl, ?_⟩
        exact (HB.out.setCell (Nat.le_refl _) _).setCell (Nat.le_refl _) _
  · have hb := inB_f ha
    have HG := hide (show gcode zs at_ = (0, 0, -1) by unfold gcode; rw [hb]; rfl)
    clear ha hr hz
    go_enter Try.func56, Try.ntmps56
    go_wp2_with (first | (go_at_call 38; refine (within_any _ _ _ _).mono ?_; rintro e w' ⟨rfl, rfl⟩) | (go_at_call 76; refine (hasArg_any _ _).mono ?_; rintro e w' ⟨rfl, rfl⟩) | (go_at_call 40; refine (l1In_any _ _ _ _).mono ?_; rintro e w' ⟨rfl, rfl⟩) | (go_at_call 73; refine (l29Has_any _ _).mono ?_; rintro e w' ⟨rfl, rfl⟩) | fail)
    refine bodyPost_ret (v := .tuple #[.agg #[.int .i64 0, .int .i64 0], .int .i64 (-1)]) (by simp [results, Try.results56, go_sem]) rfl ⟨by rw [HG.out]; rfl, (by repeat (first | exact Below.refl _ _ | with_reducible assumption | (refine Below.drew ?_) | (refine Below.drewN ?_ _) | (refine Below.alloc ?_ (by simp; try omega) _) | (refine Below.setCell ?_ (by simp; try omega) _)))⟩
theorem getCodeS_any (A : Option Addr) (zs : List Int) (c : Nat) (at_ : Int) (w : World) (hr : Rd w w.heap.size A (ints .u8 zs)) (hz : InR 0 255 zs) (hm : zs.length ≤ 1048576) :
    Calls Try.prog 54 #[.slice A zs.length c, .int .i64 at_] w (Ret (gval (gcode zs at_)) w) := by
  by_cases ha : 0 ≤ at_ ∧ at_ ≤ (zs.length : Int) - 1
  · have hb := inB_t ha
    obtain ⟨a, rfl⟩ := Int.eq_ofNat_of_zero_le ha.1
    have hlt : a < zs.length := by omega
    obtain ⟨b, off, rfl, hbw, hc0⟩ := hr.int hlt
    obtain ⟨x0, x1⟩ := hz.at_ hlt
    have hgd : zs.getD ((a : Int)).toNat 0 = zs[a] := by rw [Int.toNat_natCast, List.getD_eq_getElem?_getD, List.getElem?_eq_getElem hlt]; rfl
    have HG := hide (show gcode zs a = (if hasArgB zs[a] then (if codeOk zs[a] (gnum zs (a + 1) 2) then (zs[a], gnum zs (a + 1) 2, (a : Int) + 3) else (0, 0, -1)) else (if codeOk zs[a] 0 then (zs[a], 0, (a : Int) + 1) else (0, 0, -1))) by
      unfold gcode
      rw [if_pos hb, hgd])
    have HR := hide hr
    have HZ := hide hz
    clear ha hr hz hgd
    generalize zs[a] = x at *
    go_enter Try.func54, Try.ntmps54
    cases hA : hasArgB x
    · go_wp2_with (first | (go_at_call 38; refine (within_any _ _ _ _).mono ?_; rintro e w' ⟨rfl, rfl⟩) | (go_at_call 76; refine (hasArg_any _ _).mono ?_; rintro e w' ⟨rfl, rfl⟩) | (go_at_call 40; refine (l1In_any _ _ _ _).mono ?_; rintro e w' ⟨rfl, rfl⟩) | (go_at_call 73; refine (l29Has_any _ _).mono ?_; rintro e w' ⟨rfl, rfl⟩) | fail)
      have X0 := (Box.new w 78 #[.int .i64 0, .int .i64 0]).alloc (.cells #[.int .i64 x, .int .i64 0] 78)
      have L0 := Box.new (w.alloc (.cells #[.int .i64 0, .int .i64 0] 78)) 78 #[.int .i64 x, .int .i64 0]
      have HB0 : Hid (Below w.heap.size w ((w.alloc (.cells #[.int .i64 0, .int .i64 0] 78)).alloc (.cells #[.int .i64 x, .int .i64 0] 78))) := (by repeat (first | exact Below.refl _ _ | with_reducible assumption | (refine Below.drew ?_) | (refine Below.drewN ?_ _) | (refine Below.alloc ?_ (by simp; try omega) _) | (refine Below.setCell ?_ (by simp; try omega) _)))
      simp only [World.size_alloc] at L0
      refine (codeValidS_any x 0 _).mono ?_
      rintro e w3 ⟨rfl, hb3⟩
      have X3 := X0.call hb3
      have L3 := L0.call hb3
      have q0 := X3.cell 0
      have q1 := X3.cell 1
      have qf := X3.frozen 0
      have qf1 := X3.frozen 1
      have l0 := L3.cell 0
      have l1 := L3.cell 1
      simp only [List.getElem?_toArray, List.getElem?_cons_zero, List.getElem?_cons_succ] at q0 q1 l0 l1
      have HB := hide (HB0.out.trans (hb3.mono HB0.out.size))
      clear X0 L0 X3 L3 hb3
      cases hok : codeOk x 0
      · have HV := hide (show gcode zs a = (0, 0, -1) by rw [HG.out, if_neg (by rw [hA]; simp) , hok]; rfl)
        clear hok
        go_wp2_with fail
        refine bodyPost_ret (v := .tuple #[.agg #[.int .i64 0, .int .i64 0], .int .i64 (-1)]) (by simp [results, Try.results54, go_sem, q0, q1]) rfl ⟨by rw [HV.out]; rfl, ?_⟩
        exact (HB.out.setCell (Nat.le_refl _) _).setCell (Nat.le_refl _) _
      · have HV := hide (show gcode zs a = (x, 0, (a : Int) + 1) by rw [HG.out, if_neg (by rw [hA]; simp) , hok]; rfl)
        clear hok
        go_wp2_with fail
        refine bodyPost_ret (v := .tuple #[.agg #[.int .i64 x, .int .i64 0], .int .i64 ((a : Int) + 1)]) (by simp [results, Try.results54, go_sem, q0, q1]) rfl ⟨by rw [HV.out]; rfl, ?_⟩
        exact (HB.out.setCell (Nat.le_refl _) _).setCell (Nat.le_refl _) _
    · have hB0 : Below w.heap.size w ((w.alloc (.cells #[.int .i64 0, .int .i64 0] 78)).alloc (.cells #[.int .i64 x, .int .i64 0] 78)) := (by repeat (first | exact Below.refl _ _ | with_reducible assumption | (refine Below.drew ?_) | (refine Below.drewN ?_ _) | (refine Below.alloc ?_ (by simp; try omega) _) | (refine Below.setCell ?_ (by simp; try omega) _)))
      have HR0 := hide ((HR.out.below hB0).more hB0.size)
      clear hB0
      by_cases h3 : a + 3 ≤ zs.length
      · have hd3 : decide ((zs.length : Int) < (a : Int) + 3) = false := by simp; omega
        go_wp2_with (first | (go_at_call 38; refine (within_any _ _ _ _).mono ?_; rintro e w' ⟨rfl, rfl⟩) | (go_at_call 76; refine (hasArg_any _ _).mono ?_; rintro e w' ⟨rfl, rfl⟩) | (go_at_call 40; refine (l1In_any _ _ _ _).mono ?_; rintro e w' ⟨rfl, rfl⟩) | (go_at_call 73; refine (l29Has_any _ _).mono ?_; rintro e w' ⟨rfl, rfl⟩) | fail)
        refine (getNumberS_any _ zs c _ (a + 1) 2 _ HR0.out HZ.out (by omega)).mono ?_
        rintro e w' ⟨rfl, rfl⟩
        generalize hg : gnum zs ((a : Int) + 1) 2 = g at *
        have HGN := hide hg
        clear hg
        go_wp2_with fail
        have X0 := (Box.new w 78 #[.int .i64 0, .int .i64 0]).alloc (.cells #[.int .i64 x, .int .i64 g] 78)
        have L0 := Box.new (w.alloc (.cells #[.int .i64 0, .int .i64 0] 78)) 78 #[.int .i64 x, .int .i64 g]
        have HB0 : Hid (Below w.heap.size w ((w.alloc (.cells #[.int .i64 0, .int .i64 0] 78)).alloc (.cells #[.int .i64 x, .int .i64 g] 78))) := (by repeat (first | exact Below.refl _ _ | with_reducible assumption | (refine Below.drew ?_) | (refine Below.drewN ?_ _) | (refine Below.alloc ?_ (by simp; try omega) _) | (refine Below.setCell ?_ (by simp; try omega) _)))
        simp only [World.size_alloc] at L0
        refine (codeValidS_any x g _).mono ?_
        rintro e w3 ⟨rfl, hb3⟩
        have X3 := X0.call hb3
        have L3 := L0.call hb3
        have q0 := X3.cell 0
        have q1 := X3.cell 1
        have qf := X3.frozen 0
        have qf1 := X3.frozen 1
        have l0 := L3.cell 0
        have l1 := L3.cell 1
        simp only [List.getElem?_toArray, List.getElem?_cons_zero, List.getElem?_cons_succ] at q0 q1 l0 l1
        have HB := hide (HB0.out.trans (hb3.mono HB0.out.size))
        clear X0 L0 X3 L3 hb3
        cases hok : codeOk x g
        · have HV := hide (show gcode zs a = (0, 0, -1) by rw [HG.out, if_pos hA , hok]; rfl)
          clear hok
          go_wp2_with fail
          refine bodyPost_ret (v := .tuple #[.agg #[.int .i64 0, .int .i64 0], .int .i64 (-1)]) (by simp [results, Try.results54, go_sem, q0, q1]) rfl ⟨by rw [HV.out]; rfl, ?_⟩
          exact (HB.out.setCell (Nat.le_refl _) _).setCell (Nat.le_refl _) _
        · have HV := hide (show gcode zs a = (x, g, (a : Int) + 3) by rw [HG.out, if_pos hA , hok]; rfl)
          clear hok
          go_wp2_with fail
          refine bodyPost_ret (v := .tuple #[.agg #[.int .i64 x, .int .i64 g], .int .i64 ((a : Int) + 3)]) (by simp [results, Try.results54, go_sem, q0, q1]) rfl ⟨by rw [HV.out]; rfl, ?_⟩
          exact (HB.out.setCell (Nat.le_refl _) _).setCell (Nat.le_refl _) _
      · have HV := hide (show gcode zs a = (0, 0, -1) by
          have hg : gnum zs ((a : Int) + 1) 2 = -1 := by
            rw [gnum, if_neg (by rw [inB_f (n := (a : Int) + 1) (by omega)]; simp)]
          have hno : codeOk x (-1) = false := by simp [codeOk]
          rw [HG.out, if_pos hA, hg, hno]
          rfl)
        have hd3 : (zs.length : Int) < (a : Int) + 3 := by omega
        go_wp2_with (first | (go_at_call 38; refine (within_any _ _ _ _).mono ?_; rintro e w' ⟨rfl, rfl⟩) | (go_at_call 76; refine (hasArg_any _ _).mono ?_; rintro e w' ⟨rfl, rfl⟩) | (go_at_call 40; refine (l1In_any _ _ _ _).mono ?_; rintro e w' ⟨rfl, rfl⟩) | (go_at_call 73; refine (l29Has_any _ _).mono ?_; rintro e w' ⟨rfl, rfl⟩) | fail)
        refine bodyPost_ret (v := .tuple #[.agg #[.int .i64 0, .int .i64 0], .int .i64 (-1)]) (by simp [results, Try.results54, go_sem]) rfl ⟨by rw [HV.out]; rfl, (by repeat (first | exact Below.refl _ _ | with_reducible assumption | (refine Below.drew ?_) | (refine Below.drewN ?_ _) | (refine Below.alloc ?_ (by simp; try omega) _) | (refine Below.setCell ?_ (by simp; try omega) _)))⟩
  · have hb := inB_f ha
    have HG := hide (show gcode zs at_ = (0, 0, -1) by unfold gcode; rw [hb]; rfl)
    clear ha hr hz
    go_enter Try.func54, Try.ntmps54
    go_wp2_with (first | (go_at_call 38; refine (within_any _ _ _ _).mono ?_; rintro e w' ⟨rfl, rfl⟩) | (go_at_call 76; refine (hasArg_any _ _).mono ?_; rintro e w' ⟨rfl, rfl⟩) | (go_at_call 40; refine (l1In_any _ _ _ _).mono ?_; rintro e w' ⟨rfl, rfl⟩) | (go_at_call 73; refine (l29Has_any _ _).mono ?_; rintro e w' ⟨rfl, rfl⟩) | fail)
    refine bodyPost_ret (v := .tuple #[.agg #[.int .i64 0, .int .i64 0], .int .i64 (-1)]) (by simp [results, Try.results54, go_sem]) rfl ⟨by rw [HG.out]; rfl, (by repeat (first | exact Below.refl _ _ | with_reducible assumption | (refine Below.drew ?_) | (refine Below.drewN ?_ _) | (refine Below.alloc ?_ (by simp; try omega) _) | (refine Below.setCell ?_ (by simp; try omega) _)))⟩
end Go.Proofs.Ytjnnjgogpapbhaa.CPutCode
