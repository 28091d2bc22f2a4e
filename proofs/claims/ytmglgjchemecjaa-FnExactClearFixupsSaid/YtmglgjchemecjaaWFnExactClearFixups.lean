/- The walk of FnExactClearFixups. -/
import Derived.Test.YtmglgjchemecjaaCClear
import Derived.Test.YtmglgjchemecjaaCClearS
import Derived.Test.YtmglgjchemecjaaCObject2
import Derived.Test.YtmglgjchemecjaaIn3
import Derived.Test.YtmglgjchemecjaaWObj
namespace Go.Proofs.Ytmglgjchemecjaa.WFnExactClearFixups
set_option maxRecDepth 200000
open Go.ChangeShapes Go.WideShapes Go.ChangeAt Go.RowKit Kit CCode CFixups CSymbols PObj BObj PValid CObjValid CSections CObject CObject2 CMarkRows CCopyS WObj CClear CClearS PClear
set_option maxHeartbeats 2000000 in
theorem walk (o : OV) (w : World) (hr : RdO w w.heap.size o) (h1 : o.ps.length ≤ maxLen) (h2 : o.ys.length ≤ maxLen) (h3 : ∀ p ∈ o.ps, p.nm.size ≤ maxLen ∧ p.zs.length ≤ maxLen ∧ p.fs.length ≤ maxLen) (h4 : ∀ y ∈ o.ys, y.1.size ≤ maxLen) :
    Calls Try.prog 5 #[o.v] w (LawEnds w) := by
  have HR := hide hr
  have HSZ := hide (fun V (hV : RdO V V.heap.size o) => szObject_any o V hV h1 h2 h3 h4)
  have HTO := hide (fun V (hV : RdO V V.heap.size o) (hl : LimO o) => toObject_any o V hV hl)
  clear hr h1 h2 h3 h4
  unfold OV.v
  have B0 : Below w.heap.size w (w.alloc (.cells #[.slice o.A o.ps.length o.c, .slice o.Y o.ys.length o.yc] 38)) := (by repeat (first | exact Below.refl _ _ | with_reducible assumption | (refine Below.drew ?_) | (refine Below.drewN ?_ _) | (refine Below.alloc ?_ (by simp; try omega) _) | (refine Below.setCell ?_ (by simp; try omega) _)))
  have HV0 := hide (Box.new w 38 #[.slice o.A o.ps.length o.c, .slice o.Y o.ys.length o.yc])
  have HB0 := hide B0
  clear B0
  go_enter Try.func5, Try.ntmps5
  go_wp2_with fail
  generalize w.alloc (.cells #[.slice o.A o.ps.length o.c, .slice o.Y o.ys.length o.yc] 38) = w0 at *
  refine (HSZ.out w0 (RdO.call2 HR.out HB0.out)).mono ?_
  rintro e w1 ⟨⟨r, rfl, hcase⟩, b1⟩
  have HB1 := hide (HB0.out.trans (b1.mono HB0.out.size))
  have HV1 := hide (HV0.out.call b1)
  clear b1 HB0 HV0 
  rcases hcase with rfl | ⟨hr0, hsum⟩
  · go_wp2_with fail
    go_ret
    exact ⟨rfl, HB1.out⟩
  have HSUM := hide hsum
  have HLIM := hide (sum_lim hsum).1
  clear hsum
  have v0 := HV1.out.cell 0
  have v1 := HV1.out.cell 1
  simp only [List.getElem?_toArray, List.getElem?_cons_zero, List.getElem?_cons_succ] at v0 v1
  go_wp2_with fail
  refine (HTO.out w1 (RdO.call2 HR.out HB1.out) HLIM.out).mono ?_
  rintro e w2 ⟨o2, rfl, hd2, own2, b2⟩
  have HF2 := hide (fit_own (o := o2) (by rw [sum_d hd2]; exact HSUM.out) own2)
  have HN2 := hide (nils_own own2)
  have HD2 := hide hd2
  have HR2 := hide own2.rd
  have HB2 := hide (HB1.out.trans (b2.mono HB1.out.size))
  have HV2 := hide (HV1.out.call b2)
  clear b2 HB1 HV1 hd2 own2 v0 v1
  unfold OV.v
  go_wp2_with fail
  refine (clearFixupsS_any o2 w2 HR2.out HF2.out.1 HN2.out).mono ?_
  rintro e w3 ⟨o3, rfl, hd3, own3, b3⟩
  rw [HD2.out] at hd3
  have HD3 := hide hd3
  have HS3 := hide (show sum o3 ≤ 1048576 by rw [sum_D, hd3]; exact Int.le_trans (clear_sum o.d) (by rw [← sum_D]; exact HSUM.out))
  have HO33 := hide own3
  have HB3 := hide (HB2.out.trans (b3.mono HB2.out.size))
  have HV3 := hide (HV2.out.call b3)
  clear b3 HB2 HV2 hd3 own3 HR2 HF2 HN2 HD2
  have v0 := HV3.out.cell 0
  have v1 := HV3.out.cell 1
  simp only [List.getElem?_toArray, List.getElem?_cons_zero, List.getElem?_cons_succ] at v0 v1
  have hvl := HV3.out.lt
  unfold OV.v
  go_wp2_with fail
  have HX34 := hide (Box.new w3 26 #[.slice o3.A o3.ps.length o3.c, .slice o3.Y o3.ys.length o3.yc])
  have HLT3 := hide (fun k (hk : oblk o3 k) => (show k < w3.heap.size from (HO33.out.lt k hk).2))
  have hVX3 : w.heap.size < w3.heap.size := hvl
  have B4 : Below w3.heap.size w3 (w3.alloc (.cells #[.slice o3.A o3.ps.length o3.c, .slice o3.Y o3.ys.length o3.yc] 26)) := (by repeat (first | exact Below.refl _ _ | with_reducible assumption | (refine Below.drew ?_) | (refine Below.drewN ?_ _) | (refine Below.alloc ?_ (by simp; try omega) _) | (refine Below.setCell ?_ (by simp; try omega) _)))
  have hs4 : w3.heap.size < (w3.alloc (.cells #[.slice o3.A o3.ps.length o3.c, .slice o3.Y o3.ys.length o3.yc] 26)).heap.size := by simp
  have HB4 := hide (HB3.out.trans (B4.mono HB3.out.size))
  have HV4 := hide (HV3.out.call B4)
  have HO34 := hide (HO33.out.call B4)
  clear B4 HB3 HV3 HO33 v0 v1 hvl
  generalize w3.alloc (.cells #[.slice o3.A o3.ps.length o3.c, .slice o3.Y o3.ys.length o3.yc] 26) = w4 at *
  generalize w3.heap.size = X3 at *
  refine (HTO.out w4 (RdO.call2 HR.out HB4.out) HLIM.out).mono ?_
  rintro e w5 ⟨o5, rfl, hd5, own5, b5⟩
  have HD5 := hide hd5
  have HS5 := hide (show sum o5 ≤ 1048576 by rw [sum_d hd5]; exact HSUM.out)
  have HF5 := hide (fit_own HS5.out own5)
  have HN5 := hide (nils_own own5)
  have HO55 := hide own5
  have HLO5 := hide (fun k (hk : oblk o5 k) => (show X3 < k ∧ k < w5.heap.size from ⟨Nat.lt_of_lt_of_le hs4 (own5.lt k hk).1, (own5.lt k hk).2⟩))
  have hs45 : X3 < w5.heap.size := Nat.lt_of_lt_of_le hs4 b5.size
  have HB5 := hide (HB4.out.trans (b5.mono HB4.out.size))
  have HV5 := hide (HV4.out.call b5)
  have HO35 := hide (HO34.out.call b5)
  have HX35 := hide (HX34.out.call b5)
  clear b5 HB4 HV4 HO34 HX34 hd5 own5
  unfold OV.v
  go_wp2_with fail
  have HX56 := hide (Box.new w5 26 #[.slice o5.A o5.ps.length o5.c, .slice o5.Y o5.ys.length o5.yc])
  have B6 : Below w5.heap.size w5 (w5.alloc (.cells #[.slice o5.A o5.ps.length o5.c, .slice o5.Y o5.ys.length o5.yc] 26)) := (by repeat (first | exact Below.refl _ _ | with_reducible assumption | (refine Below.drew ?_) | (refine Below.drewN ?_ _) | (refine Below.alloc ?_ (by simp; try omega) _) | (refine Below.setCell ?_ (by simp; try omega) _)))
  have hs6 : w5.heap.size < (w5.alloc (.cells #[.slice o5.A o5.ps.length o5.c, .slice o5.Y o5.ys.length o5.yc] 26)).heap.size := by simp
  have HB6 := hide (HB5.out.trans (B6.mono HB5.out.size))
  have HV6 := hide (HV5.out.call B6)
  have HO36 := hide (HO35.out.call B6)
  have HX36 := hide (HX35.out.call B6)
  have HO56 := hide (HO55.out.call B6)
  clear B6 HB5 HV5 HO35 HX35 HO55 
  generalize w5.alloc (.cells #[.slice o5.A o5.ps.length o5.c, .slice o5.Y o5.ys.length o5.yc] 26) = w6 at *
  generalize w5.heap.size = X5 at *
  refine (clearFixups_any o5 w6 HO56.out.rd HF5.out.1 HN5.out).mono ?_
  rintro e w7 ⟨o7, rfl, hd7, own7, b7⟩
  rw [HD5.out] at hd7
  have HD7 := hide hd7
  have HS7 := hide (show sum o7 ≤ 1048576 by rw [sum_D, hd7]; exact Int.le_trans (clear_sum o.d) (by rw [← sum_D]; exact HSUM.out))
  have HLO7 := hide (fun k (hk : oblk o7 k) => (show X5 < k ∧ k < w7.heap.size from ⟨Nat.lt_of_lt_of_le hs6 (own7.lt k hk).1, (own7.lt k hk).2⟩))
  have hs67 : X5 < w7.heap.size := Nat.lt_of_lt_of_le hs6 b7.size
  have HO77 := hide own7
  have HB7 := hide (HB6.out.trans (b7.mono HB6.out.size))
  have HV7 := hide (HV6.out.call b7)
  have HO37 := hide (HO36.out.call b7)
  have HX37 := hide (HX36.out.call b7)
  have HO57 := hide (HO56.out.call b7)
  have HX57 := hide (HX56.out.call b7)
  clear b7 HB6 HV6 HO36 HX36 HO56 HX56 hd7 own7
  have x0 := HX37.out.cell 0
  have x1 := HX37.out.cell 1
  simp only [List.getElem?_toArray, List.getElem?_cons_zero, List.getElem?_cons_succ] at x0 x1
  have hxl3 := HX37.out.lt
  unfold OV.v
  go_wp2_with fail
  have HX78 := hide (Box.new w7 26 #[.slice o7.A o7.ps.length o7.c, .slice o7.Y o7.ys.length o7.yc])
  have B8 : Below w7.heap.size w7 (w7.alloc (.cells #[.slice o7.A o7.ps.length o7.c, .slice o7.Y o7.ys.length o7.yc] 26)) := (by repeat (first | exact Below.refl _ _ | with_reducible assumption | (refine Below.drew ?_) | (refine Below.drewN ?_ _) | (refine Below.alloc ?_ (by simp; try omega) _) | (refine Below.setCell ?_ (by simp; try omega) _)))
  have hs8 : w7.heap.size < (w7.alloc (.cells #[.slice o7.A o7.ps.length o7.c, .slice o7.Y o7.ys.length o7.yc] 26)).heap.size := by simp
  have HB8 := hide (HB7.out.trans (B8.mono HB7.out.size))
  have HV8 := hide (HV7.out.call B8)
  have HO38 := hide (HO37.out.call B8)
  have HX38 := hide (HX37.out.call B8)
  have HO58 := hide (HO57.out.call B8)
  have HX58 := hide (HX57.out.call B8)
  have HO78 := hide (HO77.out.call B8)
  clear B8 HB7 HV7 HO37 HX37 HO57 HX57 HO77 x0 x1 hxl3
  generalize w7.alloc (.cells #[.slice o7.A o7.ps.length o7.c, .slice o7.Y o7.ys.length o7.yc] 26) = w8 at *
  generalize w7.heap.size = X7 at *
  have HDE := hide (show o7.d = o3.d by rw [HD7.out, HD3.out])
  refine (eqObject_same o7 o3 w8 HO78.out.rd HO38.out.rd HDE.out (sum_lim HS7.out).1).mono ?_
  rintro e w9 ⟨rfl, b9⟩
  have HB9 := hide (HB8.out.trans (b9.mono HB8.out.size))
  have HV9 := hide (HV8.out.call b9)
  have HO39 := hide (HO38.out.call b9)
  have HX39 := hide (HX38.out.call b9)
  have HO59 := hide (HO58.out.call b9)
  have HX59 := hide (HX58.out.call b9)
  have HO79 := hide (HO78.out.call b9)
  have HX79 := hide (HX78.out.call b9)
  clear b9 HB8 HV8 HO38 HX38 HO58 HX58 HO78 HX78 
  go_wp2_with fail
  have HSS : Hid (∀ V : World, Below w9.heap.size w9 V → (V.cell? ⟨w.heap.size, 0, none⟩ = some (.slice o.A o.ps.length o.c) ∧ V.cell? ⟨w.heap.size, 1, none⟩ = some (.slice o.Y o.ys.length o.yc) ∧ V.cell? ⟨X5, 0, none⟩ = some (.slice o5.A o5.ps.length o5.c) ∧ V.cell? ⟨X5, 1, none⟩ = some (.slice o5.Y o5.ys.length o5.yc))) := hide (fun V hV => ⟨(HV9.out.call hV).cell 0, (HV9.out.call hV).cell 1, (HX59.out.call hV).cell 0, (HX59.out.call hV).cell 1⟩)
  refine Reg.startT (fun V => V.cell? ⟨w.heap.size, 0, none⟩ = some (.slice o.A o.ps.length o.c) ∧ V.cell? ⟨w.heap.size, 1, none⟩ = some (.slice o.Y o.ys.length o.yc) ∧ V.cell? ⟨X5, 0, none⟩ = some (.slice o5.A o5.ps.length o5.c) ∧ V.cell? ⟨X5, 1, none⟩ = some (.slice o5.Y o5.ys.length o5.yc)) (fun _ => false) (by kernel_rfl) ?_
  have hHeld := HSS.out w9.drew (Below.drew (Below.refl _ _))
  refine Reg.takeT (i := 0) (v := ?_) rfl (by kernel_rfl) (by kernel_rfl) (by kernel_rfl) (by kernel_rfl) (fun _ _ _ h => h) (Or.inl ⟨by rfl, ?_⟩) (by assumption) ?_
  rotate_left 1
  focus (intro w hSw; (try dsimp only at hSw); go_simp; (try with_reducible rfl))
  try simp only [List.getElem_toArray, List.getElem_cons_succ, List.getElem_cons_zero, Act.put, List.setIfInBounds_toArray, List.set_cons_zero, List.set_cons_succ]
  refine Reg.takeT (i := 1) (v := ?_) rfl (by kernel_rfl) (by kernel_rfl) (by kernel_rfl) (by kernel_rfl) (fun _ _ _ h => h) (Or.inl ⟨by rfl, ?_⟩) (by assumption) ?_
  rotate_left 1
  focus (intro w hSw; (try dsimp only at hSw); go_simp; (try with_reducible rfl))
  try simp only [List.getElem_toArray, List.getElem_cons_succ, List.getElem_cons_zero, Act.put, List.setIfInBounds_toArray, List.set_cons_zero, List.set_cons_succ]
  refine Reg.oneT (i := 2) rfl (by kernel_rfl) (fun K hK => ?_)
  go_simp
  refine (HTO.out w9.drew (RdO.call2 HR.out (Below.drew HB9.out)) HLIM.out).mono ?_
  rintro e w10 ⟨o10, rfl, hd10, own10, b10⟩
  have b10' : Below w9.heap.size w9 w10 := of_drew b10
  have hHeld := HSS.out w10 b10'
  refine hK.out _ _ hHeld ?_
  clear hK K
  unfold OV.v
  try simp only [List.getElem_toArray, List.getElem_cons_succ, List.getElem_cons_zero, Act.put, List.setIfInBounds_toArray, List.set_cons_zero, List.set_cons_succ]
  have HE10 := hide (And.intro own10.rd (show o5.d = o10.d by rw [HD5.out, hd10]))
  have HXB := hide b10'
  have HB10 := hide (HB9.out.trans (b10'.mono HB9.out.size))
  have HV10 := hide (HV9.out.call b10')
  have HO310 := hide (HO39.out.call b10')
  have HX310 := hide (HX39.out.call b10')
  have HO510 := hide (HO59.out.call b10')
  have HX510 := hide (HX59.out.call b10')
  have HO710 := hide (HO79.out.call b10')
  have HX710 := hide (HX79.out.call b10')
  clear b10' HB9 HV9 HO39 HX39 HO59 HX59 HO79 HX79 b10 own10 hd10
  refine Reg.oneT (i := 3) rfl (by kernel_rfl) (fun K hK => ?_)
  go_simp
  refine (eqObject_same o5 o10 w10 HO510.out.rd HE10.out.1 HE10.out.2 (sum_lim HS5.out).1).mono ?_
  rintro e w11 ⟨rfl, b11⟩
  have hHeld := HSS.out w11 (HXB.out.trans (b11.mono HXB.out.size))
  refine hK.out _ _ hHeld ?_
  clear hK K
  try simp only [List.getElem_toArray, List.getElem_cons_succ, List.getElem_cons_zero, Act.put, List.setIfInBounds_toArray, List.set_cons_zero, List.set_cons_succ]
  have HB11 := hide (HB10.out.trans (b11.mono HB10.out.size))
  have HV11 := hide (HV10.out.call b11)
  have HO311 := hide (HO310.out.call b11)
  have HX311 := hide (HX310.out.call b11)
  have HO511 := hide (HO510.out.call b11)
  have HX511 := hide (HX510.out.call b11)
  have HO711 := hide (HO710.out.call b11)
  have HX711 := hide (HX710.out.call b11)
  clear b11 HB10 HV10 HO310 HX310 HO510 HX510 HO710 HX710 HE10 HXB
  refine Reg.takeT (i := 4) (v := ?_) rfl (by kernel_rfl) (by kernel_rfl) (by kernel_rfl) (by kernel_rfl) (fun _ _ _ h => h) (Or.inl ⟨by rfl, ?_⟩) (by assumption) ?_
  rotate_left 1
  focus (intro w hSw; (try dsimp only at hSw); go_simp; (try with_reducible rfl))
  try simp only [List.getElem_toArray, List.getElem_cons_succ, List.getElem_cons_zero, Act.put, List.setIfInBounds_toArray, List.set_cons_zero, List.set_cons_succ]
  refine Reg.doneT (by kernel_rfl) ?_ _
  clear hHeld HSS
  have x0 := HX511.out.cell 0
  have x1 := HX511.out.cell 1
  simp only [List.getElem?_toArray, List.getElem?_cons_zero, List.getElem?_cons_succ] at x0 x1
  go_wp2_with fail
  refine (markObject_any (X3 + 1) o5 1 w11 (by omega) (by omega) HS5.out (own_up HO511.out (fun k hk => (HLO5.out k hk).1))).mono ?_
  rintro e w12 ⟨rfl, own12, g12⟩
  have HRR := hide (show 0 ≤ 1 + CMarkRows.wds o5.ps + 4 * (o5.ys.length : Int) by have := CMarkRows.wds_nonneg o5.ps; omega)
  have HB12 := hide (Gp.below HB11.out g12 HB11.out.size (fun k hk => by have h1 := (HLO5.out k hk).1; omega))
  have HV12 := hide (g12.box HV11.out (fun h => by have h1 := (HLO5.out _ h).1; omega))
  have HX312 := hide (g12.box HX311.out (fun h => by have h1 := (HLO5.out _ h).1; omega))
  have HX712 := hide (g12.box HX711.out (fun h => by have h1 := (HLO5.out _ h).2; omega))
  have HO312 := hide (OwnO.gp g12 HO311.out (fun k hk h => by have h1 := (HLO5.out _ h).1; have h2 := HLT3.out k hk; omega))
  have HO712 := hide (OwnO.gp g12 HO711.out (fun k hk h => by have h1 := (HLO5.out _ h).2; have h2 := (HLO7.out k hk).1; omega))
  clear own12 g12 x0 x1 HB11 HV11 HX311 HO311 HX511 HO511 HX711 HO711
  generalize 1 + CMarkRows.wds o5.ps + 4 * (o5.ys.length : Int) = rr at *
  have hrr := HRR.out
  have x0 := HX712.out.cell 0
  have x1 := HX712.out.cell 1
  simp only [List.getElem?_toArray, List.getElem?_cons_zero, List.getElem?_cons_succ] at x0 x1
  have y0 := HX312.out.cell 0
  have y1 := HX312.out.cell 1
  simp only [List.getElem?_toArray, List.getElem?_cons_zero, List.getElem?_cons_succ] at y0 y1
  go_wp2_with fail
  refine (eqObject_same o7 o3 w12 HO712.out.rd HO312.out.rd HDE.out (sum_lim HS7.out).1).mono ?_
  rintro e w13 ⟨rfl, b13⟩
  have HB13 := hide (HB12.out.trans (b13.mono HB12.out.size))
  have HV13 := hide (HV12.out.call b13)
  have HO313 := hide (HO312.out.call b13)
  have HX313 := hide (HX312.out.call b13)
  have HO713 := hide (HO712.out.call b13)
  have HX713 := hide (HX712.out.call b13)
  clear b13 HB12 HV12 HO312 HX312 HO712 HX712 x0 x1 y0 y1
  have x0 := HX713.out.cell 0
  have x1 := HX713.out.cell 1
  simp only [List.getElem?_toArray, List.getElem?_cons_zero, List.getElem?_cons_succ] at x0 x1
  go_wp2_with fail
  refine (markObject_any (X5 + 1) o7 1 w13 (by omega) (by omega) HS7.out (own_up HO713.out (fun k hk => (HLO7.out k hk).1))).mono ?_
  rintro e w14 ⟨rfl, own14, g14⟩
  have HB14 := hide (Gp.below HB13.out g14 HB13.out.size (fun k hk => by have h1 := (HLO7.out k hk).1; omega))
  have HV14 := hide (g14.box HV13.out (fun h => by have h1 := (HLO7.out _ h).1; omega))
  have HX314 := hide (g14.box HX313.out (fun h => by have h1 := (HLO7.out _ h).1; omega))
  have HX714 := hide (g14.box HX713.out (fun h => by have h1 := (HLO7.out _ h).2; omega))
  have HO314 := hide (OwnO.gp g14 HO313.out (fun k hk h => by have h1 := (HLO7.out _ h).1; have h2 := HLT3.out k hk; omega))
  have HO714 := hide own14
  have HTT := hide (show 0 ≤ 1 + CMarkRows.wds o7.ps + 4 * (o7.ys.length : Int) by have := CMarkRows.wds_nonneg o7.ps; omega)
  have HHD := hide (fun (V : World) (h : RdO V V.heap.size (mO 1 o7)) => heldObject_any o7 1 V (by omega) (by omega) HS7.out h)
  clear own14 g14 x0 x1 HB13 HV13 HX313 HO313 HX713 HO713
  generalize 1 + CMarkRows.wds o7.ps + 4 * (o7.ys.length : Int) = tt at *
  have htt : ¬ tt < 0 := by have := HTT.out; omega
  have x0 := HX714.out.cell 0
  have x1 := HX714.out.cell 1
  simp only [List.getElem?_toArray, List.getElem?_cons_zero, List.getElem?_cons_succ] at x0 x1
  go_wp2_with fail
  refine (HHD.out w14 HO714.out.rd).mono ?_
  rintro e w15 ⟨rfl, b15⟩
  have HB15 := hide (HB14.out.trans (b15.mono HB14.out.size))
  have HV15 := hide (HV14.out.call b15)
  have HO315 := hide (HO314.out.call b15)
  have HX315 := hide (HX314.out.call b15)
  have HO715 := hide (HO714.out.call b15)
  have HX715 := hide (HX714.out.call b15)
  clear b15 HB14 HV14 HO314 HX314 HO714 HX714 x0 x1
  have v0 := HV15.out.cell 0
  have v1 := HV15.out.cell 1
  simp only [List.getElem?_toArray, List.getElem?_cons_zero, List.getElem?_cons_succ] at v0 v1
  go_wp2_with fail
  refine (HTO.out w15 (RdO.call2 HR.out HB15.out) HLIM.out).mono ?_
  rintro e w16 ⟨o16, rfl, hd16, own16, b16⟩
  have HF16 := hide (fit_own (o := o16) (by rw [sum_d hd16]; exact HSUM.out) own16)
  have HN16 := hide (nils_own own16)
  have HD16 := hide hd16
  have HR16 := hide own16.rd
  have HB16 := hide (HB15.out.trans (b16.mono HB15.out.size))
  have HV16 := hide (HV15.out.call b16)
  have HO316 := hide (HO315.out.call b16)
  have HX316 := hide (HX315.out.call b16)
  have HO716 := hide (HO715.out.call b16)
  have HX716 := hide (HX715.out.call b16)
  clear b16 HB15 HV15 HO315 HX315 HO715 HX715 hd16 own16 v0 v1
  unfold OV.v
  go_wp2_with fail
  refine (clearFixups_any o16 w16 HR16.out HF16.out.1 HN16.out).mono ?_
  rintro e w17 ⟨o17, rfl, hd17, own17, b17⟩
  rw [HD16.out] at hd17
  have HD17 := hide (And.intro (show o17.d = o3.d by rw [hd17, HD3.out]) (show sum o17 ≤ 1048576 by rw [sum_D, hd17]; exact Int.le_trans (clear_sum o.d) (by rw [← sum_D]; exact HSUM.out)))
  have HO1717 := hide own17
  have HB17 := hide (HB16.out.trans (b17.mono HB16.out.size))
  have HV17 := hide (HV16.out.call b17)
  have HO317 := hide (HO316.out.call b17)
  have HX317 := hide (HX316.out.call b17)
  have HO717 := hide (HO716.out.call b17)
  have HX717 := hide (HX716.out.call b17)
  clear b17 HB16 HV16 HO316 HX316 HO716 HX716 hd17 own17 HR16 HF16 HN16 HD16
  have x0 := HX317.out.cell 0
  have x1 := HX317.out.cell 1
  simp only [List.getElem?_toArray, List.getElem?_cons_zero, List.getElem?_cons_succ] at x0 x1
  have hxl3 := HX317.out.lt
  unfold OV.v
  go_wp2_with fail
  have B18 : Below w17.heap.size w17 (w17.alloc (.cells #[.slice o17.A o17.ps.length o17.c, .slice o17.Y o17.ys.length o17.yc] 26)) := (by repeat (first | exact Below.refl _ _ | with_reducible assumption | (refine Below.drew ?_) | (refine Below.drewN ?_ _) | (refine Below.alloc ?_ (by simp; try omega) _) | (refine Below.setCell ?_ (by simp; try omega) _)))
  have HB18 := hide (HB17.out.trans (B18.mono HB17.out.size))
  have HV18 := hide (HV17.out.call B18)
  have HO318 := hide (HO317.out.call B18)
  have HX318 := hide (HX317.out.call B18)
  have HO718 := hide (HO717.out.call B18)
  have HX718 := hide (HX717.out.call B18)
  have HO1718 := hide (HO1717.out.call B18)
  clear B18 HB17 HV17 HO317 HX317 HO717 HX717 HO1717 x0 x1 hxl3
  generalize w17.alloc (.cells #[.slice o17.A o17.ps.length o17.c, .slice o17.Y o17.ys.length o17.yc] 26) = w18 at *
  refine (eqObject_same o17 o3 w18 HO1718.out.rd HO318.out.rd HD17.out.1 (sum_lim HD17.out.2).1).mono ?_
  rintro e w19 ⟨rfl, b19⟩
  have HB19 := hide (HB18.out.trans (b19.mono HB18.out.size))
  have HV19 := hide (HV18.out.call b19)
  have HO319 := hide (HO318.out.call b19)
  have HX319 := hide (HX318.out.call b19)
  have HO719 := hide (HO718.out.call b19)
  have HX719 := hide (HX718.out.call b19)
  have HO1719 := hide (HO1718.out.call b19)
  clear b19 HB18 HV18 HO318 HX318 HO718 HX718 HO1718 
  have x0 := HX719.out.cell 0
  have x1 := HX719.out.cell 1
  simp only [List.getElem?_toArray, List.getElem?_cons_zero, List.getElem?_cons_succ] at x0 x1
  go_wp2_with fail
  refine (HHD.out w19 HO719.out.rd).mono ?_
  rintro e w20 ⟨rfl, b20⟩
  have HB20 := hide (HB19.out.trans (b20.mono HB19.out.size))
  go_wp2_with fail
  go_ret
  exact ⟨rfl, HB20.out⟩
end Go.Proofs.Ytmglgjchemecjaa.WFnExactClearFixups
