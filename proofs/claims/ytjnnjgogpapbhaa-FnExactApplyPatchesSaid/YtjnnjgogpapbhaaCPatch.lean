/- Contracts of the laws' helpers on one Patch: the copy, the comparison of equal data, the size; of l1OwnPatch. -/
import Derived.Test.YtjnnjgogpapbhaaCImage
namespace Go.Proofs.Ytjnnjgogpapbhaa.CPatch
set_option maxRecDepth 200000
open Go.ChangeShapes Go.WideShapes Go.ChangeAt Go.RowKit Kit CCode CImage
theorem ret_patch {w w1 : World} {Y : Nat} {b : Int} {zs : List Int} {A : Option Addr} {n c : Nat} (hn : n = zs.length) (h : Row w1 w.heap.size 5 1 A n c (ints .u8 zs)) (B : Below w.heap.size w w1) (hY : Box w1 Y 72 #[.int .i64 0, .slice none 0 0]) (hYw : w.heap.size ≤ Y) :
    RetImage b zs w (.returned (.agg #[.int .i64 b, .slice A n c])) ((w1.setCell ⟨Y, 0, none⟩ (.int .i64 b)).setCell ⟨Y, 1, none⟩ (.slice A n c)) := by
  subst hn
  exact ⟨A, c, rfl, put2_row h hY (by decide) _ _, put2_below B hYw _ _⟩
theorem toPatch_any (b : Int) (A : Option Addr) (zs : List Int) (c : Nat) (w : World) (hr : Rd w w.heap.size A (ints .u8 zs)) (hm : zs.length ≤ 1048576) :
    Calls Try.prog 47 #[.agg #[.int .i64 b, .slice A zs.length c]] w (RetImage b zs w) := by
  have HY := (Box.new (w.alloc (.cells #[.int .i64 b, .slice A zs.length c] 68)) 72 #[.int .i64 0, .slice none 0 0]).alloc (.cells #[.int .i64 b, .slice none 0 0] 72)
  have HZ := Box.new ((w.alloc (.cells #[.int .i64 b, .slice A zs.length c] 68)).alloc (.cells #[.int .i64 0, .slice none 0 0] 72)) 72 #[.int .i64 b, .slice none 0 0]
  have B0 : Below w.heap.size w (((w.alloc (.cells #[.int .i64 b, .slice A zs.length c] 68)).alloc (.cells #[.int .i64 0, .slice none 0 0] 72)).alloc (.cells #[.int .i64 b, .slice none 0 0] 72)) := (by repeat (first | exact Below.refl _ _ | with_reducible assumption | (refine Below.drew ?_) | (refine Below.drewN ?_ _) | (refine Below.alloc ?_ (by simp; try omega) _) | (refine Below.setCell ?_ (by simp; try omega) _)))
  simp only [World.size_alloc] at HY HZ
  have HR := hide ((hr.below B0).more B0.size)
  have HB := hide B0
  clear hr B0
  go_enter Try.func47, Try.ntmps47
  go_wp2_with fail
  generalize (((w.alloc (.cells #[.int .i64 b, .slice A zs.length c] 68)).alloc (.cells #[.int .i64 0, .slice none 0 0] 72)).alloc (.cells #[.int .i64 b, .slice none 0 0] 72)) = w0 at *
  refine (CBytes.toByteS_any A zs c w0 HR.out hm).mono ?_
  rintro e w1 ⟨A1, c1, rfl, o1, b1⟩
  have HY1 := hide (HY.call b1)
  have HZ1 := hide (HZ.call b1)
  have hne : w.heap.size + 1 ≠ w.heap.size + 1 + 1 := by omega
  have HB1 := hide (HB.out.trans (b1.mono HB.out.size))
  have HO := hide (own_base o1 HB.out.size)
  clear HY HZ o1 b1 HB HR
  have z0 := HZ1.out.cell 0
  have z1 := HZ1.out.cell 1
  have zf := HZ1.out.frozen 1
  have y0 := HY1.out.cell 0
  have y1 := HY1.out.cell 1
  have f0 := HY1.out.frozen 0
  have f1 := HY1.out.frozen 1
  simp only [List.getElem?_toArray, List.getElem?_cons_zero, List.getElem?_cons_succ] at z0 z1 y0 y1
  have Y2 := HY1.out.far (p := ⟨w.heap.size + 1 + 1, 1, none⟩) hne (.slice A1 zs.length c1)
  have Z2 := HZ1.out.set 1 (.slice A1 zs.length c1)
  have HF := hide (ret_patch (w := w) (b := b) rfl (.inr (own_setFar HO.out (a := ⟨w.heap.size + 1 + 1, 1, none⟩) (own_box HO.out HZ1.out (by decide)) (.slice A1 zs.length c1))) (HB1.out.setCell (p := ⟨w.heap.size + 1 + 1, 1, none⟩) (by show w.heap.size ≤ w.heap.size + 1 + 1; omega) (.slice A1 zs.length c1)) Y2 (by omega))
  have k := put2_box Y2 (.int .i64 b) (.slice A1 zs.length c1)
  have k0 := k.cell 0
  have k1 := k.cell 1
  simp only [List.getElem?_toArray, List.getElem?_cons_zero, List.getElem?_cons_succ] at k0 k1
  clear Y2 Z2 k
  go_wp2_with fail
  exact bodyPost_ret (v := .agg #[.int .i64 b, .slice A1 zs.length c1]) (by simp [results, Try.results47, go_sem, k0, k1]) rfl HF.out
theorem eqPatch_same (b : Int) (A A' : Option Addr) (zs : List Int) (c c' : Nat) (w : World) (h : Rd w w.heap.size A (ints .u8 zs)) (h' : Rd w w.heap.size A' (ints .u8 zs)) (hn : zs.length ≤ maxLen) :
    Calls Try.prog 50 #[.agg #[.int .i64 b, .slice A zs.length c], .agg #[.int .i64 b, .slice A' zs.length c']] w (Ret (.bool true) w) := by
  have B0 : Below w.heap.size w ((w.alloc (.cells #[.int .i64 b, .slice A zs.length c] 72)).alloc (.cells #[.int .i64 b, .slice A' zs.length c'] 72)) := (by repeat (first | exact Below.refl _ _ | with_reducible assumption | (refine Below.drew ?_) | (refine Below.drewN ?_ _) | (refine Below.alloc ?_ (by simp; try omega) _) | (refine Below.setCell ?_ (by simp; try omega) _)))
  have h0 : (b != b) = false := by simp
  go_enter Try.func50, Try.ntmps50
  go_wp2_with fail
  refine (CBytes.eqByteS_any A A' zs zs c c' _ _ ((h.below B0).more B0.size) ((h'.below B0).more B0.size) hn hn).mono ?_
  rintro e w1 ⟨rfl, n1, rfl⟩
  simp only [beq_self_eq_true]
  go_wp2_with fail
  go_ret
  exact ⟨rfl, Kit.Below.drewN B0 _⟩
theorem szPatch_any (b : Int) (A : Option Addr) (n c : Nat) (left : Int) (w : World) (h0 : 0 ≤ left) (h1 : left ≤ 1048576) (hn : n ≤ maxLen) :
    Calls Try.prog 43 #[.agg #[.int .i64 b, .slice A n c], .int .i64 left] w (Ret (.int .i64 (szI left n)) w) := by
  have B0 : Below w.heap.size w (w.alloc (.cells #[.int .i64 b, .slice A n c] 68)) := (by repeat (first | exact Below.refl _ _ | with_reducible assumption | (refine Below.drew ?_) | (refine Below.drewN ?_ _) | (refine Below.alloc ?_ (by simp; try omega) _) | (refine Below.setCell ?_ (by simp; try omega) _)))
  by_cases h : left - n < 0
  · have e1 : szI left n = -1 := by rw [szI, if_pos h]
    have E1 := hide e1
    go_enter Try.func43, Try.ntmps43
    go_wp2_with fail
    refine (szByteS_any A n c left _ h0 h1 hn).mono ?_
    rintro e w' ⟨rfl, rfl⟩
    rw [e1]
    go_wp2_with fail
    go_ret
    exact ⟨ret_int E1.out.symm, B0⟩
  · have e1 : szI left n = left - n := by rw [szI, if_neg h]
    have hm := hn
    unfold maxLen at hm
    have E1 := hide e1
    go_enter Try.func43, Try.ntmps43
    go_wp2_with fail
    refine (szByteS_any A n c left _ h0 h1 hn).mono ?_
    rintro e w' ⟨rfl, rfl⟩
    rw [e1]
    go_wp2_with fail
    go_ret
    exact ⟨ret_int E1.out.symm, B0⟩
theorem l1OwnPatch_any (b : Int) (A : Option Addr) (zs : List Int) (c : Nat) (w : World) (hr : Rd w w.heap.size A (ints .u8 zs)) (hm : zs.length ≤ 1048576) (hnil : A = none → c = 0) :
    Calls Try.prog 69 #[.agg #[.int .i64 b, .slice A zs.length c]] w (RetImage b zs w) := by
  obtain ⟨i0, hi, hz0, hz1, hz2⟩ := info_parts CBytes8.info8
  have HY := (Box.new (w.alloc (.cells #[.int .i64 b, .slice A zs.length c] 72)) 72 #[.int .i64 0, .slice none 0 0]).alloc (.cells #[.int .i64 b, .slice A zs.length c] 72)
  have HZ := Box.new ((w.alloc (.cells #[.int .i64 b, .slice A zs.length c] 72)).alloc (.cells #[.int .i64 0, .slice none 0 0] 72)) 72 #[.int .i64 b, .slice A zs.length c]
  have B0 : Below w.heap.size w (((w.alloc (.cells #[.int .i64 b, .slice A zs.length c] 72)).alloc (.cells #[.int .i64 0, .slice none 0 0] 72)).alloc (.cells #[.int .i64 b, .slice A zs.length c] 72)) := (by repeat (first | exact Below.refl _ _ | with_reducible assumption | (refine Below.drew ?_) | (refine Below.drewN ?_ _) | (refine Below.alloc ?_ (by simp; try omega) _) | (refine Below.setCell ?_ (by simp; try omega) _)))
  simp only [World.size_alloc] at HY HZ
  have HR := hide ((hr.below B0).more B0.size)
  have HB := hide B0
  have hn1 : 0 + zs.length ≤ maxLen := by unfold maxLen; omega
  have hn2 : (0 + zs.length) * 1 ≤ 140737488355328 := by omega
  have HN := hide (And.intro hn1 (And.intro hn2 hnil))
  clear hr B0 hn1 hn2 hnil
  have HX := ((Box.new w 72 #[.int .i64 b, .slice A zs.length c]).alloc (.cells #[.int .i64 0, .slice none 0 0] 72)).alloc (.cells #[.int .i64 b, .slice A zs.length c] 72)
  go_enter Try.func69, Try.ntmps69
  go_upto_region 2 with (fail)
  generalize (((w.alloc (.cells #[.int .i64 b, .slice A zs.length c] 72)).alloc (.cells #[.int .i64 0, .slice none 0 0] 72)).alloc (.cells #[.int .i64 b, .slice A zs.length c] 72)) = w0 at *
  have q1 := HX.cell 1
  have hx := HX.lt
  simp only [List.getElem?_toArray, List.getElem?_cons_zero, List.getElem?_cons_succ] at q1
  have HYZ := hide (And.intro HY HZ)
  clear HX HY HZ
  go_wp2_with (at_builtin; refine wpList_app (w0.alloc (.cells #[] 5)) rfl (.tmp 5) (.tmp 7) 22 rfl 5 i0 (.int .u8 0) 1 1 Try.underlying22 hi hz0 hz1 hz2 rfl (by decide) w.heap.size _ 0 0 [] rfl (Row.empty _ _ _ _ _) ?hb A zs.length c (ints .u8 zs) rfl (HR.out.below (below_al (Below.refl _ _))) (by simp) HN.out.2.2 oneI HN.out.1 HN.out.2.1 ?_)
  case hb => exact Nat.le_trans HB.out.size (by simp)
  intro A1 n1 c1 w1 hn1 o1 g1 k1
  have b1 : Below w0.heap.size w0 w1 := below_tr (below_al (Below.refl _ _)) g1
  have HY1 := hide (HYZ.out.1.call b1)
  have HZ1 := hide (HYZ.out.2.call b1)
  have hne : w.heap.size + 1 ≠ w.heap.size + 1 + 1 := by omega
  have HB1 := hide (HB.out.trans (b1.mono HB.out.size))
  have HO := hide (show Row w1 w.heap.size 5 1 A1 n1 c1 (ints .u8 zs) by simpa using o1)
  have HN1 := hide (show n1 = zs.length by omega)
  clear o1 b1 HB HR g1 k1 hn1 q1 hx
  obtain rfl := HN1.out
  have z0 := HZ1.out.cell 0
  have z1 := HZ1.out.cell 1
  have zf := HZ1.out.frozen 1
  have y0 := HY1.out.cell 0
  have y1 := HY1.out.cell 1
  have f0 := HY1.out.frozen 0
  have f1 := HY1.out.frozen 1
  simp only [List.getElem?_toArray, List.getElem?_cons_zero, List.getElem?_cons_succ] at z0 z1 y0 y1
  have Y2 := HY1.out.far (p := ⟨w.heap.size + 1 + 1, 1, none⟩) hne (.slice A1 zs.length c1)
  have HF := hide (ret_patch (w := w) (b := b) rfl (HO.out.set (a := ⟨w.heap.size + 1 + 1, 1, none⟩) (HO.out.box HZ1.out (by decide)) (.slice A1 zs.length c1)) (HB1.out.setCell (p := ⟨w.heap.size + 1 + 1, 1, none⟩) (by show w.heap.size ≤ w.heap.size + 1 + 1; omega) (.slice A1 zs.length c1)) Y2 (by omega))
  have k := put2_box Y2 (.int .i64 b) (.slice A1 zs.length c1)
  have k0 := k.cell 0
  have k1 := k.cell 1
  simp only [List.getElem?_toArray, List.getElem?_cons_zero, List.getElem?_cons_succ] at k0 k1
  clear Y2 k
  go_wp2_with fail
  exact bodyPost_ret (v := .agg #[.int .i64 b, .slice A1 zs.length c1]) (by simp [results, Try.results69, go_sem, k0, k1]) rfl HF.out
end Go.Proofs.Ytjnnjgogpapbhaa.CPatch
