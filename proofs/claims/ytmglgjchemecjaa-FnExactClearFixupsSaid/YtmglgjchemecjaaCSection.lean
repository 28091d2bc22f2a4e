/- Contracts of the laws' helpers on one Section: the copy, the comparison of equal data, the size. -/
import Derived.Test.YtmglgjchemecjaaBObj
import Derived.Test.YtmglgjchemecjaaRows
namespace Go.Proofs.Ytmglgjchemecjaa.CSection
set_option maxRecDepth 200000
open Go.ChangeShapes Go.WideShapes Go.ChangeAt Go.RowKit Kit CFixups CSymbols PObj BObj
theorem toSection_any (p : SV) (w : World) (hr : RdS w w.heap.size p) (h1 : p.zs.length ≤ 1048576) (h2 : p.fs.length ≤ 1048576) :
    Calls Try.prog 119 #[.agg #[.string p.nm, .int .i64 p.kd, .int .i64 p.al, .slice p.A p.zs.length p.c, .int .i64 p.sz, .slice p.F p.fs.length p.fc]] w (RetS p.d w) := by
  obtain ⟨nm, kd, al, A, c, zs, sz, F, fc, fs⟩ := p
  simp only at h1 h2 ⊢
  have HR := hide hr
  clear hr
  have HY := (Box.new (w.alloc (.cells #[.string nm, .int .i64 kd, .int .i64 al, .slice A zs.length c, .int .i64 sz, .slice F fs.length fc] 141)) 73 #[.string ⟨#[]⟩, .int .i64 0, .int .i64 0, .slice none 0 0, .int .i64 0, .slice none 0 0]).alloc (.cells #[.string nm, .int .i64 kd, .int .i64 al, .slice none 0 0, .int .i64 0, .slice none 0 0] 73)
  have HZ := Box.new ((w.alloc (.cells #[.string nm, .int .i64 kd, .int .i64 al, .slice A zs.length c, .int .i64 sz, .slice F fs.length fc] 141)).alloc (.cells #[.string ⟨#[]⟩, .int .i64 0, .int .i64 0, .slice none 0 0, .int .i64 0, .slice none 0 0] 73)) 73 #[.string nm, .int .i64 kd, .int .i64 al, .slice none 0 0, .int .i64 0, .slice none 0 0]
  have HV := ((Box.new w 141 #[.string nm, .int .i64 kd, .int .i64 al, .slice A zs.length c, .int .i64 sz, .slice F fs.length fc]).alloc (.cells #[.string ⟨#[]⟩, .int .i64 0, .int .i64 0, .slice none 0 0, .int .i64 0, .slice none 0 0] 73)).alloc (.cells #[.string nm, .int .i64 kd, .int .i64 al, .slice none 0 0, .int .i64 0, .slice none 0 0] 73)
  have B0 : Below w.heap.size w (((w.alloc (.cells #[.string nm, .int .i64 kd, .int .i64 al, .slice A zs.length c, .int .i64 sz, .slice F fs.length fc] 141)).alloc (.cells #[.string ⟨#[]⟩, .int .i64 0, .int .i64 0, .slice none 0 0, .int .i64 0, .slice none 0 0] 73)).alloc (.cells #[.string nm, .int .i64 kd, .int .i64 al, .slice none 0 0, .int .i64 0, .slice none 0 0] 73)) := (by repeat (first | exact Below.refl _ _ | with_reducible assumption | (refine Below.drew ?_) | (refine Below.drewN ?_ _) | (refine Below.alloc ?_ (by simp; try omega) _) | (refine Below.setCell ?_ (by simp; try omega) _)))
  simp only [World.size_alloc] at HY HZ
  have hYX : w.heap.size + 1 < w.heap.size + 1 + 1 := by omega
  have hVY : w.heap.size < w.heap.size + 1 := by omega
  have HB := hide B0
  clear B0
  go_enter Try.func119, Try.ntmps119
  go_wp2_with fail
  generalize (((w.alloc (.cells #[.string nm, .int .i64 kd, .int .i64 al, .slice A zs.length c, .int .i64 sz, .slice F fs.length fc] 141)).alloc (.cells #[.string ⟨#[]⟩, .int .i64 0, .int .i64 0, .slice none 0 0, .int .i64 0, .slice none 0 0] 73)).alloc (.cells #[.string nm, .int .i64 kd, .int .i64 al, .slice none 0 0, .int .i64 0, .slice none 0 0] 73)) = w0 at *
  generalize w.heap.size + 1 + 1 = X at *
  generalize w.heap.size + 1 = Y at *
  refine (CBytes.toByteS_any A zs c w0 ((HR.out.1.below HB.out).more HB.out.size) h1).mono ?_
  rintro e w1 ⟨A1, c1, rfl, o1, b1⟩
  have HY1 := hide (HY.call b1)
  have HZ1 := hide (HZ.call b1)
  have HV1 := hide (HV.call b1)
  have HB1 := hide (HB.out.trans (b1.mono HB.out.size))
  have HO := hide (show Row w1 w0.heap.size 5 1 A1 zs.length c1 (ints .u8 zs) from .inr o1)
  have hX0 : X < w0.heap.size := HZ.lt
  have z3 := HZ1.out.cell 3
  have z4 := HZ1.out.cell 4
  have z5 := HZ1.out.cell 5
  have zf3 := HZ1.out.frozen 3
  have zf4 := HZ1.out.frozen 4
  have zf5 := HZ1.out.frozen 5
  have v4 := HV1.out.cell 4
  have v5 := HV1.out.cell 5
  simp only [List.getElem?_toArray, List.getElem?_cons_zero, List.getElem?_cons_succ] at z3 z4 z5 v4 v5
  clear HY HZ HV o1 b1 HB
  have hne : w.heap.size ≠ X := by omega
  have hnY : Y ≠ X := by omega
  have hle : w.heap.size ≤ X := by omega
  go_wp2_with fail
  have HB2 := hide ((HB1.out.setCell (p := ⟨X, 3, none⟩) hle (.slice A1 zs.length c1)).setCell (p := ⟨X, 4, none⟩) hle (.int .i64 sz))
  have hk1 : ∀ k, blk A1 c1 = some k → k ≠ X := fun k hk => by have := (HO.out.lt k hk).1; omega
  have HO2 := hide ((HO.out.set (a := ⟨X, 3, none⟩) hk1 (.slice A1 zs.length c1)).set (a := ⟨X, 4, none⟩) hk1 (.int .i64 sz))
  have HY2 := hide ((HY1.out.far (p := ⟨X, 3, none⟩) hnY (.slice A1 zs.length c1)).far (p := ⟨X, 4, none⟩) hnY (.int .i64 sz))
  have HZ2 := hide (show Box ((w1.setCell ⟨X, 3, none⟩ (.slice A1 zs.length c1)).setCell ⟨X, 4, none⟩ (.int .i64 sz)) X 73 #[.string nm, .int .i64 kd, .int .i64 al, .slice A1 zs.length c1, .int .i64 sz, .slice none 0 0] from (HZ1.out.set 3 (.slice A1 zs.length c1)).set 4 (.int .i64 sz))
  clear HB1 HO HY1 HZ1 HV1 z3 z4 z5 zf3 zf4 zf5 v4 v5
  generalize (w1.setCell ⟨X, 3, none⟩ (.slice A1 zs.length c1)).setCell ⟨X, 4, none⟩ (.int .i64 sz) = w2 at *
  refine (toFixupS_any F fs fc w2 ((HR.out.2.below HB2.out).more HB2.out.size) h2).mono ?_
  rintro e w3 ⟨F1, fc1, rfl, o3, b3⟩
  have HB3 := hide (HB2.out.trans (b3.mono HB2.out.size))
  have HO3 := hide (HO2.out.call b3)
  have HF3 := hide (show Row w3 w2.heap.size 77 4 F1 fs.length fc1 (cellsOf fixupC fs) from .inr o3)
  have HY3 := hide (HY2.out.call b3)
  have HZ3 := hide (HZ2.out.call b3)
  have hX2 : X < w2.heap.size := HZ2.out.lt
  have hZ3 := HZ3.out.lt
  have hY3 := HY3.out.lt
  have z0 := HZ3.out.cell 0
  have z1 := HZ3.out.cell 1
  have z2 := HZ3.out.cell 2
  have z3 := HZ3.out.cell 3
  have z4 := HZ3.out.cell 4
  have z5 := HZ3.out.cell 5
  have zf5 := HZ3.out.frozen 5
  have y0 := HY3.out.cell 0
  have y1 := HY3.out.cell 1
  have y2 := HY3.out.cell 2
  have y3 := HY3.out.cell 3
  have y4 := HY3.out.cell 4
  have y5 := HY3.out.cell 5
  have yf0 := HY3.out.frozen 0
  have yf1 := HY3.out.frozen 1
  have yf2 := HY3.out.frozen 2
  have yf3 := HY3.out.frozen 3
  have yf4 := HY3.out.frozen 4
  have yf5 := HY3.out.frozen 5
  simp only [List.getElem?_toArray, List.getElem?_cons_zero, List.getElem?_cons_succ] at z0 z1 z2 z3 z4 z5 y0 y1 y2 y3 y4 y5
  have hk2 : ∀ k, blk A1 c1 = some k → k ≠ X := hk1
  have hk3 : ∀ k, blk F1 fc1 = some k → k ≠ X := fun k hk => by have := (HF3.out.lt k hk).1; omega
  have hk4 : ∀ k, blk A1 c1 = some k → k ≠ Y := fun k hk => by have := (HO3.out.lt k hk).1; omega
  have hk5 : ∀ k, blk F1 fc1 = some k → k ≠ Y := fun k hk => by have := (HF3.out.lt k hk).1; omega
  have HQ := hide (show RwS (w3.setCell ⟨X, 5, none⟩ (.slice F1 fs.length fc1)) w.heap.size ⟨nm, kd, al, A1, c1, zs, sz, F1, fc1, fs⟩ from ⟨(HO3.out.set (a := ⟨X, 5, none⟩) hk2 _).down (by omega), (HF3.out.set (a := ⟨X, 5, none⟩) hk3 _).down HB2.out.size⟩)
  have HB4 := hide (HB3.out.setCell (p := ⟨X, 5, none⟩) hle (.slice F1 fs.length fc1))
  have HY4 := hide (HY3.out.far (p := ⟨X, 5, none⟩) hnY (.slice F1 fs.length fc1))
  have hse : ∀ k, sblk ⟨nm, kd, al, A1, c1, zs, sz, F1, fc1, fs⟩ k → k ≠ Y := by
    rintro k (hk | hk)
    · exact hk4 k hk
    · exact hk5 k hk
  have HE := hide hse
  clear hse hk1 hk2 hk3 hk4 hk5 b3 o3 HO3 HF3 HB2 HB3 HO2 HY2 HZ2 HY3 HZ3
  have k := six_box HY4.out (.string nm) (.int .i64 kd) (.int .i64 al) (.slice A1 zs.length c1) (.int .i64 sz) (.slice F1 fs.length fc1)
  have k0 := k.cell 0
  have k1 := k.cell 1
  have k2 := k.cell 2
  have k3 := k.cell 3
  have k4 := k.cell 4
  have k5 := k.cell 5
  simp only [List.getElem?_toArray, List.getElem?_cons_zero, List.getElem?_cons_succ] at k0 k1 k2 k3 k4 k5
  clear k
  go_wp2_with fail
  exact bodyPost_ret (v := .agg (secC ⟨nm, kd, al, A1, c1, zs, sz, F1, fc1, fs⟩).toArray) (by simp [results, Try.results119, go_sem, secC, k0, k1, k2, k3, k4, k5]) rfl ⟨⟨nm, kd, al, A1, c1, zs, sz, F1, fc1, fs⟩, rfl, rfl, put6_rwS HQ.out HE.out, put6_below HB4.out (Nat.le_of_lt hVY)⟩
theorem eqSection_same (p q : SV) (w : World) (h : RdS w w.heap.size p) (h' : RdS w w.heap.size q) (hd : p.d = q.d) (h1 : p.zs.length ≤ maxLen) (h2 : p.fs.length ≤ maxLen) :
    Calls Try.prog 121 #[.agg (secC p).toArray, .agg (secC q).toArray] w (Ret (.bool true) w) := by
  obtain ⟨nm, kd, al, A, c, zs, sz, F, fc, fs⟩ := p
  obtain ⟨nm', kd', al', A', c', zs', sz', F', fc', fs'⟩ := q
  simp only [SV.d, SD.mk.injEq] at hd
  obtain ⟨rfl, rfl, rfl, rfl, rfl, rfl⟩ := hd
  simp only [secC] at h1 h2 ⊢
  have B0 : Below w.heap.size w ((w.alloc (.cells #[.string nm, .int .i64 kd, .int .i64 al, .slice A zs.length c, .int .i64 sz, .slice F fs.length fc] 73)).alloc (.cells #[.string nm, .int .i64 kd, .int .i64 al, .slice A' zs.length c', .int .i64 sz, .slice F' fs.length fc'] 73)) := (by repeat (first | exact Below.refl _ _ | with_reducible assumption | (refine Below.drew ?_) | (refine Below.drewN ?_ _) | (refine Below.alloc ?_ (by simp; try omega) _) | (refine Below.setCell ?_ (by simp; try omega) _)))
  have X0 := (Box.new w 73 #[.string nm, .int .i64 kd, .int .i64 al, .slice A zs.length c, .int .i64 sz, .slice F fs.length fc]).alloc (.cells #[.string nm, .int .i64 kd, .int .i64 al, .slice A' zs.length c', .int .i64 sz, .slice F' fs.length fc'] 73)
  have Y0 := Box.new (w.alloc (.cells #[.string nm, .int .i64 kd, .int .i64 al, .slice A zs.length c, .int .i64 sz, .slice F fs.length fc] 73)) 73 #[.string nm, .int .i64 kd, .int .i64 al, .slice A' zs.length c', .int .i64 sz, .slice F' fs.length fc']
  simp only [World.size_alloc] at Y0
  have HB := hide B0
  have HR := hide (And.intro h h')
  clear B0 h h'
  go_enter Try.func121, Try.ntmps121
  go_wp2_with fail
  generalize (w.alloc (.cells #[.string nm, .int .i64 kd, .int .i64 al, .slice A zs.length c, .int .i64 sz, .slice F fs.length fc] 73)).alloc (.cells #[.string nm, .int .i64 kd, .int .i64 al, .slice A' zs.length c', .int .i64 sz, .slice F' fs.length fc'] 73) = w0 at *
  refine (CBytes.eqByteS_any A A' zs zs c c' _ _ ((HR.out.1.1.below HB.out).more HB.out.size) ((HR.out.2.1.below HB.out).more HB.out.size) h1 h1).mono ?_
  rintro e w1 ⟨rfl, n1, rfl⟩
  simp only [beq_self_eq_true]
  have HB1 := hide (Kit.Below.drewN HB.out n1)
  have X1 := X0.drewN n1
  have Y1 := Y0.drewN n1
  generalize w0.drewN n1 = w1 at *
  have x4 := X1.cell 4
  have x5 := X1.cell 5
  have y4 := Y1.cell 4
  have y5 := Y1.cell 5
  simp only [List.getElem?_toArray, List.getElem?_cons_zero, List.getElem?_cons_succ] at x4 x5 y4 y5
  clear X0 Y0 X1 Y1 HB
  go_wp2_with fail
  refine (eqFixupS_same F F' fs fc fc' _ ((HR.out.1.2.below HB1.out).more HB1.out.size) ((HR.out.2.2.below HB1.out).more HB1.out.size) h2).mono ?_
  rintro e w2 ⟨rfl, b2⟩
  have HB2 := hide (HB1.out.trans (b2.mono HB1.out.size))
  clear b2
  go_wp2_with fail
  go_ret
  exact ⟨rfl, HB2.out⟩
def szI (left : Int) (n : Nat) : Int := if left - n < 0 then -1 else left - n
theorem szByteS_any (A : Option Addr) (n c : Nat) (left : Int) (w : World) (h0 : 0 ≤ left) (h1 : left ≤ 1048576) (hn : n ≤ maxLen) : Calls Try.prog 166 #[.slice A n c, .int .i64 left] w (Ret (.int .i64 (szI left n)) w) := by
  unfold maxLen at hn
  unfold szI
  by_cases h : left - n < 0
  · rw [if_pos h]
    go_enter Try.func166, Try.ntmps166
    go_wp2
    go_ret
    exact ⟨rfl, (by repeat (first | exact Below.refl _ _ | with_reducible assumption | (refine Below.drew ?_) | (refine Below.drewN ?_ _) | (refine Below.alloc ?_ (by simp; try omega) _) | (refine Below.setCell ?_ (by simp; try omega) _)))⟩
  · rw [if_neg h]
    go_enter Try.func166, Try.ntmps166
    go_wp2
    go_ret
    exact ⟨rfl, (by repeat (first | exact Below.refl _ _ | with_reducible assumption | (refine Below.drew ?_) | (refine Below.drewN ?_ _) | (refine Below.alloc ?_ (by simp; try omega) _) | (refine Below.setCell ?_ (by simp; try omega) _)))⟩
theorem szFixupS_any (A : Option Addr) (n c : Nat) (left : Int) (w : World) (h0 : 0 ≤ left) (h1 : left ≤ 1048576) (hn : n ≤ maxLen) : Calls Try.prog 167 #[.slice A n c, .int .i64 left] w (Ret (.int .i64 (szI left n)) w) := by
  unfold maxLen at hn
  unfold szI
  by_cases h : left - n < 0
  · rw [if_pos h]
    go_enter Try.func167, Try.ntmps167
    go_wp2
    go_ret
    exact ⟨rfl, (by repeat (first | exact Below.refl _ _ | with_reducible assumption | (refine Below.drew ?_) | (refine Below.drewN ?_ _) | (refine Below.alloc ?_ (by simp; try omega) _) | (refine Below.setCell ?_ (by simp; try omega) _)))⟩
  · rw [if_neg h]
    go_enter Try.func167, Try.ntmps167
    go_wp2
    go_ret
    exact ⟨rfl, (by repeat (first | exact Below.refl _ _ | with_reducible assumption | (refine Below.drew ?_) | (refine Below.drewN ?_ _) | (refine Below.alloc ?_ (by simp; try omega) _) | (refine Below.setCell ?_ (by simp; try omega) _)))⟩
def szJ (left k : Int) : Int := if left - k < 0 then -1 else left - k
theorem szJ_neg {left k : Int} (h : left - k < 0) : szJ left k = -1 := if_pos h
theorem szJ_pos {left k : Int} (h : ¬ left - k < 0) : szJ left k = left - k := if_neg h
/-- A section's size: -1, or what is left. -/
theorem szSection_any (p : SV) (left : Int) (w : World) (h0 : 0 ≤ left) (h1 : left ≤ 1048576) (hs : p.nm.size ≤ maxLen) (hn : p.zs.length ≤ maxLen) (hf : p.fs.length ≤ maxLen) :
    Calls Try.prog 117 #[.agg #[.string p.nm, .int .i64 p.kd, .int .i64 p.al, .slice p.A p.zs.length p.c, .int .i64 p.sz, .slice p.F p.fs.length p.fc], .int .i64 left] w (Ret (.int .i64 (szJ left (wt p.d))) w) := by
  obtain ⟨nm, kd, al, A, c, zs, sz, F, fc, fs⟩ := p
  have hw : wt (SV.d ⟨nm, kd, al, A, c, zs, sz, F, fc, fs⟩) = nm.size + zs.length + fs.length := rfl
  rw [hw]
  clear hw
  simp only at hs hn hf ⊢
  have HN := hide (And.intro hn hf)
  unfold maxLen at hs hn hf
  have B0 : Below w.heap.size w (w.alloc (.cells #[.string nm, .int .i64 kd, .int .i64 al, .slice A zs.length c, .int .i64 sz, .slice F fs.length fc] 141)) := (by repeat (first | exact Below.refl _ _ | with_reducible assumption | (refine Below.drew ?_) | (refine Below.drewN ?_ _) | (refine Below.alloc ?_ (by simp; try omega) _) | (refine Below.setCell ?_ (by simp; try omega) _)))
  have X0 := Box.new w 141 #[.string nm, .int .i64 kd, .int .i64 al, .slice A zs.length c, .int .i64 sz, .slice F fs.length fc]
  have HB := hide B0
  clear B0
  by_cases k0 : left - nm.size < 0
  · rw [szJ_neg (by omega)]
    go_enter Try.func117, Try.ntmps117
    go_wp2_with fail
    go_ret
    exact ⟨rfl, HB.out⟩
  by_cases k1 : left - nm.size - zs.length < 0
  · rw [szJ_neg (by omega)]
    have e1 : szI (left - nm.size) zs.length = -1 := by rw [szI, if_pos k1]
    go_enter Try.func117, Try.ntmps117
    go_wp2_with fail
    refine (szByteS_any A zs.length c (left - nm.size) _ (by omega) (by omega) HN.out.1).mono ?_
    rintro e w1 ⟨rfl, b1⟩
    rw [e1]
    have HB1 := hide (HB.out.trans (b1.mono HB.out.size))
    clear b1 e1
    go_wp2_with fail
    go_ret
    exact ⟨rfl, HB1.out⟩
  have e1 : szI (left - nm.size) zs.length = left - nm.size - zs.length := by rw [szI, if_neg k1]
  by_cases k2 : left - nm.size - zs.length - fs.length < 0
  · rw [szJ_neg (by omega)]
    have e2 : szI (left - nm.size - zs.length) fs.length = -1 := by rw [szI, if_pos k2]
    have HE := hide (And.intro e1 e2)
    clear e1 e2
    go_enter Try.func117, Try.ntmps117
    go_wp2_with fail
    refine (szByteS_any A zs.length c (left - nm.size) _ (by omega) (by omega) HN.out.1).mono ?_
    rintro e w1 ⟨rfl, b1⟩
    rw [HE.out.1]
    have HB1 := hide (HB.out.trans (b1.mono HB.out.size))
    have X1 := X0.call b1
    have x5 := X1.cell 5
    simp only [List.getElem?_toArray, List.getElem?_cons_zero, List.getElem?_cons_succ] at x5
    clear b1 X0 X1
    go_wp2_with fail
    refine (szFixupS_any F fs.length fc (left - nm.size - zs.length) _ (by omega) (by omega) HN.out.2).mono ?_
    rintro e w2 ⟨rfl, b2⟩
    rw [HE.out.2]
    have HB2 := hide (HB1.out.trans (b2.mono HB1.out.size))
    clear b2
    go_wp2_with fail
    go_ret
    exact ⟨rfl, HB2.out⟩
  · rw [szJ_pos (by omega)]
    have e2 : szI (left - nm.size - zs.length) fs.length = left - nm.size - zs.length - fs.length := by rw [szI, if_neg k2]
    have HE := hide (And.intro e1 e2)
    have HL := hide (show left - nm.size - zs.length - fs.length = left - (nm.size + zs.length + fs.length) by omega)
    clear e1 e2
    go_enter Try.func117, Try.ntmps117
    go_wp2_with fail
    refine (szByteS_any A zs.length c (left - nm.size) _ (by omega) (by omega) HN.out.1).mono ?_
    rintro e w1 ⟨rfl, b1⟩
    rw [HE.out.1]
    have HB1 := hide (HB.out.trans (b1.mono HB.out.size))
    have X1 := X0.call b1
    have x5 := X1.cell 5
    simp only [List.getElem?_toArray, List.getElem?_cons_zero, List.getElem?_cons_succ] at x5
    clear b1 X0 X1
    go_wp2_with fail
    refine (szFixupS_any F fs.length fc (left - nm.size - zs.length) _ (by omega) (by omega) HN.out.2).mono ?_
    rintro e w2 ⟨rfl, b2⟩
    rw [HE.out.2]
    have HB2 := hide (HB1.out.trans (b2.mono HB1.out.size))
    clear b2
    go_wp2_with fail
    go_ret
    exact ⟨by rw [HL.out]; rfl, HB2.out⟩
end Go.Proofs.Ytmglgjchemecjaa.CSection
