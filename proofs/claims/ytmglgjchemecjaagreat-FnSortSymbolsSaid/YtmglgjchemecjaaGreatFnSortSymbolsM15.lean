/- The walk of FnSortSymbols. -/
import Derived.Test.YtmglgjchemecjaaGreatFnSortSymbolsM14
import Derived.BigQuiet
set_option linter.unusedSimpArgs false
set_option linter.unusedVariables false
namespace Go.Proofs.YtmglgjchemecjaaGreat.WFnSortSymbols
set_option maxRecDepth 200000
open Go.ChangeShapes Go.WideShapes Go.ChangeAt Go.RowKit Kit CCode CFixups CSymbols PObj BObj PValid CObjValid PWarn PClear PSort DDrawB CCopyS CCopyI CAlive BList PLink PLinkL PLinkS CLink CSameO
theorem linkOne_any (o : OV) (base : Int) (b : Nat) (w : World) (hc : Box w b 31 #[.slice o.A o.ps.length o.c, .slice o.Y o.ys.length o.yc]) (hr : RdO w w.heap.size o) (hf : Fit o) (hn : Nils o) :
    Calls Tryz.prog 17 #[.slice (some ⟨b, 0, none⟩) 1 1, .int .i64 base] w (RetL (linkR [o.d] base) w) := by
  refine link_any (some ⟨b, 0, none⟩) [o] 1 base w ⟨?_, fun x hx => ?_⟩ ⟨by simp, fun x hx => ?_⟩ (fun x hx p hp => ?_)
  · intro i u hi
    refine ⟨b, 0, rfl, hc.lt, ?_⟩
    rw [Nat.zero_add, hc.cell i]
    simpa [cellsOf, objC] using hi
  · rw [List.mem_singleton.1 hx]
    exact hr
  · rw [List.mem_singleton.1 hx]
    exact hf
  · rw [List.mem_singleton.1 hx] at hp
    exact (hn.2 p hp).1
theorem lim_bnd {o : OV} (h : Bnd o.d) : Lim o := by
  obtain ⟨h1, h2, h3, _⟩ := h
  simp only [OV.d, List.length_map] at h1 h2
  refine ⟨by omega, by omega, fun p hp => ?_⟩
  obtain ⟨_, a2, a3⟩ := h3 p.d (List.mem_map_of_mem hp)
  simp only [SV.d] at a2 a3
  omega
theorem bnd_sort {d : OD} (h : Bnd d) : Bnd (sortD d) := by
  unfold sortD
  cases objOk d
  · exact bnd_nil
  · refine ⟨by simpa using h.1, by have e : ((order d.ys).map fun i => d.ys.getD i dY).length = d.ys.length := srt_len d.ys; simp only [cond_true]; rw [e]; exact h.2.1, fun s hs => ?_, fun y hy => h.2.2.2 y ((srt_perm d.ys).mem_iff.1 hy)⟩
    obtain ⟨p, hp, rfl⟩ := List.mem_map.1 hs
    have := h.2.2.1 p hp
    exact ⟨this.1, this.2.1, by show (p.fs.map _).length ≤ 6; rw [List.length_map]; exact this.2.2⟩
set_option maxHeartbeats 4000000 in
theorem walk (A : Option Addr) (zs : List Int) (c : Nat) (hl : zs.length ≤ c) (hc : c ≤ maxLen) (hz : InR 0 255 zs) (w : World) (hr : Rd w w.heap.size A (ints .u8 zs)) :
    Calls Tryz.prog 4 #[.slice A zs.length c] w (LawEnds w) := by
  have hcm := hc
  unfold maxLen at hcm
  have HD := hide (draw_DrawSortSymbols hr hz hl hc)
  clear hr hz hc
  by_cases hbig : 1048576 < zs.length
  · go_enter Tryz.func4, Tryz.ntmps4
    go_wp2_with fail
    go_ret
    exact ⟨rfl, Below.refl _ _⟩
  go_enter Tryz.func4, Tryz.ntmps4
  go_wp2_with fail
  refine HD.out.mono ?_
  rintro e w1 ⟨d, hbd, o, rfl, hd, own1, b1⟩
  subst hd
  have HBD := hide hbd
  have HFT := hide (bnd_fit hbd own1).1
  have HNL := hide (nils_own own1)
  have HR := hide (own1.rd)
  have B1 : Below w1.heap.size w1 (w1.alloc (.cells #[.slice o.A o.ps.length o.c, .slice o.Y o.ys.length o.yc] 31)) := (by repeat (first | exact Below.refl _ _ | with_reducible assumption | (refine Below.drew ?_) | (refine Below.drewN ?_ _) | (refine Below.alloc ?_ (by simp; try omega) _) | (refine Below.setCell ?_ (by simp; try omega) _)))
  have HX := hide (Box.new w1 31 #[.slice o.A o.ps.length o.c, .slice o.Y o.ys.length o.yc])
  have HB := hide (b1.trans (B1.mono b1.size))
  replace HR := hide (HR.out.call B1)
  clear hbd own1 b1 B1 HD
  simp only [OV.v]
  have x0 := HX.out.cell 0
  have x1 := HX.out.cell 1
  simp only [List.getElem?_toArray, List.getElem?_cons_zero, List.getElem?_cons_succ] at x0 x1
  have hxl := HX.out.lt
  go_wp2_with fail
  generalize w1.alloc (.cells #[.slice o.A o.ps.length o.c, .slice o.Y o.ys.length o.yc] 31) = w2 at *
  generalize w1.heap.size = X at *
  refine (CSort.sortSymbols_any o w2 HR.out HFT.out HNL.out).mono ?_
  rintro e w3 ⟨o2, rfl, hd2, own2, b3⟩
  have HD2 := hide hd2
  have HF2 := hide (bnd_fit (by rw [hd2]; exact bnd_sort HBD.out) own2).1
  have HN2 := hide (nils_own own2)
  have HR2 := hide own2.rd
  have HLM2 := hide (lim_bnd (by rw [hd2]; exact bnd_sort HBD.out))
  replace HR := hide (HR.out.call b3)
  replace HB := hide (HB.out.trans (b3.mono HB.out.size))
  replace HX := hide (HX.out.call b3)
  clear b3
  clear hd2 own2 x0 x1 hxl
  simp only [OV.v]
  have B4 : Below w3.heap.size w3 (w3.alloc (.cells #[.slice o2.A o2.ps.length o2.c, .slice o2.Y o2.ys.length o2.yc] 31)) := (by repeat (first | exact Below.refl _ _ | with_reducible assumption | (refine Below.drew ?_) | (refine Below.drewN ?_ _) | (refine Below.alloc ?_ (by simp; try omega) _) | (refine Below.setCell ?_ (by simp; try omega) _)))
  have HY := hide (Box.new w3 31 #[.slice o2.A o2.ps.length o2.c, .slice o2.Y o2.ys.length o2.yc])
  replace HR := hide (HR.out.call B4)
  replace HR2 := hide (HR2.out.call B4)
  replace HB := hide (HB.out.trans (B4.mono HB.out.size))
  replace HX := hide (HX.out.call B4)
  clear B4
  go_wp2_with fail
  generalize w3.alloc (.cells #[.slice o2.A o2.ps.length o2.c, .slice o2.Y o2.ys.length o2.yc] 31) = w4 at *
  generalize w3.heap.size = Y at *
  have x0 := HX.out.cell 0
  have x1 := HX.out.cell 1
  simp only [List.getElem?_toArray, List.getElem?_cons_zero, List.getElem?_cons_succ] at x0 x1
  have y0 := HY.out.cell 0
  have y1 := HY.out.cell 1
  simp only [List.getElem?_toArray, List.getElem?_cons_zero, List.getElem?_cons_succ] at y0 y1
  have Z0 : w4.cell? ⟨X, 0, none⟩ = some (.slice o.A o.ps.length o.c) ∧ w4.cell? ⟨X, 1, none⟩ = some (.slice o.Y o.ys.length o.yc) ∧ w4.cell? ⟨Y, 0, none⟩ = some (.slice o2.A o2.ps.length o2.c) ∧ w4.cell? ⟨Y, 1, none⟩ = some (.slice o2.Y o2.ys.length o2.yc) := ⟨x0, x1, y0, y1⟩
  refine Reg.startT (fun W => W.cell? ⟨X, 0, none⟩ = some (.slice o.A o.ps.length o.c) ∧ W.cell? ⟨X, 1, none⟩ = some (.slice o.Y o.ys.length o.yc) ∧ W.cell? ⟨Y, 0, none⟩ = some (.slice o2.A o2.ps.length o2.c) ∧ W.cell? ⟨Y, 1, none⟩ = some (.slice o2.Y o2.ys.length o2.yc)) (fun _ => false) (by kernel_rfl) ?_
  have hHeld : w4.drew.cell? ⟨X, 0, none⟩ = some (.slice o.A o.ps.length o.c) ∧ w4.drew.cell? ⟨X, 1, none⟩ = some (.slice o.Y o.ys.length o.yc) ∧ w4.drew.cell? ⟨Y, 0, none⟩ = some (.slice o2.A o2.ps.length o2.c) ∧ w4.drew.cell? ⟨Y, 1, none⟩ = some (.slice o2.Y o2.ys.length o2.yc) := Z0
  clear Z0 x0 x1 y0 y1
  refine Reg.takeT (i := 0) (v := ?_) rfl (by kernel_rfl) (by kernel_rfl) (by kernel_rfl) (by kernel_rfl) (fun _ _ _ h => h) (Or.inl ⟨by rfl, ?_⟩) (by assumption) ?_
  rotate_left 1
  focus (intro w hSw; (try dsimp only at hSw); go_simp; (try with_reducible rfl))
  try simp only [List.getElem_toArray, List.getElem_cons_succ, List.getElem_cons_zero, Act.put, List.setIfInBounds_toArray, List.set_cons_zero, List.set_cons_succ]
  refine Reg.takeT (i := 1) (v := ?_) rfl (by kernel_rfl) (by kernel_rfl) (by kernel_rfl) (by kernel_rfl) (fun _ _ _ h => h) (Or.inl ⟨by rfl, ?_⟩) (by assumption) ?_
  rotate_left 1
  focus (intro w hSw; (try dsimp only at hSw); go_simp; (try with_reducible rfl))
  try simp only [List.getElem_toArray, List.getElem_cons_succ, List.getElem_cons_zero, Act.put, List.setIfInBounds_toArray, List.set_cons_zero, List.set_cons_succ]
  have bd : Below w4.heap.size w4 w4.drew := below_dr (Below.refl _ _)
  replace HR := hide (HR.out.call bd)
  replace HR2 := hide (HR2.out.call bd)
  replace HB := hide (HB.out.trans (bd.mono HB.out.size))
  replace HX := hide (HX.out.call bd)
  replace HY := hide (HY.out.call bd)
  clear bd
  generalize w4.drew = w5 at *
  refine Reg.oneT (i := 2) rfl (by kernel_rfl) (fun K hK => ?_)
  go_simp
  refine (CSortS.sortSymbolsS_any o w5 HR.out HFT.out HNL.out).mono ?_
  rintro e w6 ⟨o3, rfl, hd3, own3, b6⟩
  simp only [OV.v]
  have HD3 := hide (hd3.trans HD2.out.symm)
  have HR3 := hide own3.rd
  replace HR := hide (HR.out.call b6)
  replace HR2 := hide (HR2.out.call b6)
  replace HB := hide (HB.out.trans (b6.mono HB.out.size))
  replace HX := hide (HX.out.call b6)
  replace HY := hide (HY.out.call b6)
  clear b6
  clear hd3 own3 hHeld
  have x0 := HX.out.cell 0
  have x1 := HX.out.cell 1
  simp only [List.getElem?_toArray, List.getElem?_cons_zero, List.getElem?_cons_succ] at x0 x1
  have y0 := HY.out.cell 0
  have y1 := HY.out.cell 1
  simp only [List.getElem?_toArray, List.getElem?_cons_zero, List.getElem?_cons_succ] at y0 y1
  have hHeld : w6.cell? ⟨X, 0, none⟩ = some (.slice o.A o.ps.length o.c) ∧ w6.cell? ⟨X, 1, none⟩ = some (.slice o.Y o.ys.length o.yc) ∧ w6.cell? ⟨Y, 0, none⟩ = some (.slice o2.A o2.ps.length o2.c) ∧ w6.cell? ⟨Y, 1, none⟩ = some (.slice o2.Y o2.ys.length o2.yc) := ⟨x0, x1, y0, y1⟩
  clear x0 x1 y0 y1
  refine hK.out _ _ hHeld ?_
  clear hK K
  try simp only [List.getElem_toArray, List.getElem_cons_succ, List.getElem_cons_zero, Act.put, List.setIfInBounds_toArray, List.set_cons_zero, List.set_cons_succ]
  refine Reg.oneT (i := 3) rfl (by kernel_rfl) (fun K hK => ?_)
  go_simp
  refine (sameObject_same o2 o3 HD3.out w6 HR2.out HR3.out HLM2.out).mono ?_
  rintro e w7 ⟨rfl, b7⟩
  replace HR := hide (HR.out.call b7)
  replace HR2 := hide (HR2.out.call b7)
  replace HB := hide (HB.out.trans (b7.mono HB.out.size))
  replace HX := hide (HX.out.call b7)
  replace HY := hide (HY.out.call b7)
  clear b7
  clear hHeld HR3 HD3
  have x0 := HX.out.cell 0
  have x1 := HX.out.cell 1
  simp only [List.getElem?_toArray, List.getElem?_cons_zero, List.getElem?_cons_succ] at x0 x1
  have y0 := HY.out.cell 0
  have y1 := HY.out.cell 1
  simp only [List.getElem?_toArray, List.getElem?_cons_zero, List.getElem?_cons_succ] at y0 y1
  have hHeld : w7.cell? ⟨X, 0, none⟩ = some (.slice o.A o.ps.length o.c) ∧ w7.cell? ⟨X, 1, none⟩ = some (.slice o.Y o.ys.length o.yc) ∧ w7.cell? ⟨Y, 0, none⟩ = some (.slice o2.A o2.ps.length o2.c) ∧ w7.cell? ⟨Y, 1, none⟩ = some (.slice o2.Y o2.ys.length o2.yc) := ⟨x0, x1, y0, y1⟩
  clear x0 x1 y0 y1
  refine hK.out _ _ hHeld ?_
  clear hK K
  try simp only [List.getElem_toArray, List.getElem_cons_succ, List.getElem_cons_zero, Act.put, List.setIfInBounds_toArray, List.set_cons_zero, List.set_cons_succ]
  refine Reg.takeT (i := 4) (v := ?_) rfl (by kernel_rfl) (by kernel_rfl) (by kernel_rfl) (by kernel_rfl) (fun _ _ _ h => h) (Or.inl ⟨by rfl, ?_⟩) (by assumption) ?_
  rotate_left 1
  focus (intro w hSw; (try dsimp only at hSw); go_simp; (try with_reducible rfl))
  try simp only [List.getElem_toArray, List.getElem_cons_succ, List.getElem_cons_zero, Act.put, List.setIfInBounds_toArray, List.set_cons_zero, List.set_cons_succ]
  clear hHeld
  refine Reg.doneT (by kernel_rfl) ?_ _
  have x0 := HX.out.cell 0
  have x1 := HX.out.cell 1
  simp only [List.getElem?_toArray, List.getElem?_cons_zero, List.getElem?_cons_succ] at x0 x1
  have hxl := HX.out.lt
  go_wp2_with fail
  clear x0 x1 hxl
  refine (CObjValidS.objectValidS_any o w7 HR.out HFT.out).mono ?_
  rintro e w8 ⟨rfl, b8⟩
  replace HR := hide (HR.out.call b8)
  replace HR2 := hide (HR2.out.call b8)
  replace HB := hide (HB.out.trans (b8.mono HB.out.size))
  replace HX := hide (HX.out.call b8)
  replace HY := hide (HY.out.call b8)
  clear b8
  cases hok : objOk o.d
  · have hd0 : o2.d = ⟨[], []⟩ := HD2.out.trans (sort_bad hok)
    have e1 : o2.ps.length = 0 := by simpa [OV.d] using congrArg List.length (congrArg OD.ss hd0)
    have e2 : o2.ys.length = 0 := by simpa [OV.d] using congrArg List.length (congrArg OD.ys hd0)
    rw [e1, e2] at HY
    clear hok hd0 e1 e2
    have y0 := HY.out.cell 0
    have y1 := HY.out.cell 1
    simp only [List.getElem?_toArray, List.getElem?_cons_zero, List.getElem?_cons_succ] at y0 y1
    have hyl := HY.out.lt
    go_wp2_with fail
    refine (alive_any _).mono ?_
    rintro e w' ⟨rfl, rfl⟩
    go_wp2_with fail
    go_ret
    exact ⟨rfl, HB.out⟩
  have HLK := hide (show linkR [o2.d] 8 = linkR [o.d] 8 from by rw [HD2.out]; exact link_sort hok 8)
  have HAG := hide (show sortD o2.d = o2.d from by rw [HD2.out]; exact sort_again hok)
  have HOK2 := hide (show objOk o2.d = true from by rw [HD2.out, sort_is hok]; exact sort_objOk hok)
  clear hok
  have x0 := HX.out.cell 0
  have x1 := HX.out.cell 1
  simp only [List.getElem?_toArray, List.getElem?_cons_zero, List.getElem?_cons_succ] at x0 x1
  have hxl := HX.out.lt
  have B9 : Below w8.heap.size w8 (w8.alloc (.cells #[.slice o.A o.ps.length o.c, .slice o.Y o.ys.length o.yc] 31)) := (by repeat (first | exact Below.refl _ _ | with_reducible assumption | (refine Below.drew ?_) | (refine Below.drewN ?_ _) | (refine Below.alloc ?_ (by simp; try omega) _) | (refine Below.setCell ?_ (by simp; try omega) _)))
  have HC9 := hide (Box.new w8 31 #[.slice o.A o.ps.length o.c, .slice o.Y o.ys.length o.yc])
  go_wp2_with fail
  clear x0 x1 hxl
  replace HR := hide (HR.out.call B9)
  replace HR2 := hide (HR2.out.call B9)
  replace HB := hide (HB.out.trans (B9.mono HB.out.size))
  replace HX := hide (HX.out.call B9)
  replace HY := hide (HY.out.call B9)
  clear B9
  generalize w8.alloc (.cells #[.slice o.A o.ps.length o.c, .slice o.Y o.ys.length o.yc] 31) = w9 at *
  refine (linkOne_any o 8 w8.heap.size w9 HC9.out HR.out HFT.out HNL.out).mono ?_
  rintro e w10 ⟨A1, c1, rfl, r1, b10⟩
  replace HR := hide (HR.out.call b10)
  replace HR2 := hide (HR2.out.call b10)
  have HM1 := hide r1
  replace HB := hide (HB.out.trans (b10.mono HB.out.size))
  replace HX := hide (HX.out.call b10)
  replace HY := hide (HY.out.call b10)
  clear b10
  clear r1 HC9
  generalize hr1 : linkR [o.d] 8 = R1 at *
  clear hr1
  obtain ⟨ba1, im1, fa1⟩ := R1
  simp only
  have B11 : Below w10.heap.size w10 (w10.alloc (.cells #[.int .i64 ba1, .slice A1 im1.length c1] 40)) := (by repeat (first | exact Below.refl _ _ | with_reducible assumption | (refine Below.drew ?_) | (refine Below.drewN ?_ _) | (refine Below.alloc ?_ (by simp; try omega) _) | (refine Below.setCell ?_ (by simp; try omega) _)))
  have HI1 := hide (Box.new w10 40 #[.int .i64 ba1, .slice A1 im1.length c1])
  replace HR := hide (HR.out.call B11)
  replace HR2 := hide (HR2.out.call B11)
  have HM2 := hide (HM1.out.call B11)
  replace HB := hide (HB.out.trans (B11.mono HB.out.size))
  replace HX := hide (HX.out.call B11)
  replace HY := hide (HY.out.call B11)
  clear B11
  clear HM1
  have y0 := HY.out.cell 0
  have y1 := HY.out.cell 1
  simp only [List.getElem?_toArray, List.getElem?_cons_zero, List.getElem?_cons_succ] at y0 y1
  have hyl := HY.out.lt
  have B12 : Below (w10.alloc (.cells #[.int .i64 ba1, .slice A1 im1.length c1] 40)).heap.size (w10.alloc (.cells #[.int .i64 ba1, .slice A1 im1.length c1] 40)) ((w10.alloc (.cells #[.int .i64 ba1, .slice A1 im1.length c1] 40)).alloc (.cells #[.slice o2.A o2.ps.length o2.c, .slice o2.Y o2.ys.length o2.yc] 31)) := (by repeat (first | exact Below.refl _ _ | with_reducible assumption | (refine Below.drew ?_) | (refine Below.drewN ?_ _) | (refine Below.alloc ?_ (by simp; try omega) _) | (refine Below.setCell ?_ (by simp; try omega) _)))
  have HC12 := Box.new (w10.alloc (.cells #[.int .i64 ba1, .slice A1 im1.length c1] 40)) 31 #[.slice o2.A o2.ps.length o2.c, .slice o2.Y o2.ys.length o2.yc]
  simp only [World.size_alloc] at HC12
  have HC := hide HC12
  clear HC12
  go_wp2_with fail
  clear y0 y1 hyl
  replace HR := hide (HR.out.call B12)
  replace HR2 := hide (HR2.out.call B12)
  replace HM2 := hide (HM2.out.call B12)
  replace HB := hide (HB.out.trans (B12.mono HB.out.size))
  replace HX := hide (HX.out.call B12)
  replace HY := hide (HY.out.call B12)
  replace HI1 := hide (HI1.out.call B12)
  clear B12
  generalize (w10.alloc (.cells #[.int .i64 ba1, .slice A1 im1.length c1] 40)).alloc (.cells #[.slice o2.A o2.ps.length o2.c, .slice o2.Y o2.ys.length o2.yc] 31) = w12 at *
  refine (linkOne_any o2 8 (w10.heap.size + 1) w12 HC.out HR2.out HF2.out HN2.out).mono ?_
  rintro e w13 ⟨A2, c2, rfl, r2, b13⟩
  rw [HLK.out] at r2
  simp only [HLK.out]
  have HM3 := hide r2
  replace HR2 := hide (HR2.out.call b13)
  replace HM2 := hide (HM2.out.call b13)
  replace HB := hide (HB.out.trans (b13.mono HB.out.size))
  replace HX := hide (HX.out.call b13)
  replace HY := hide (HY.out.call b13)
  replace HI1 := hide (HI1.out.call b13)
  clear b13
  clear r2 HC HR HX
  generalize w10.heap.size = P1 at *
  have B14 : Below w13.heap.size w13 (w13.alloc (.cells #[.int .i64 ba1, .slice A2 im1.length c2] 40)) := (by repeat (first | exact Below.refl _ _ | with_reducible assumption | (refine Below.drew ?_) | (refine Below.drewN ?_ _) | (refine Below.alloc ?_ (by simp; try omega) _) | (refine Below.setCell ?_ (by simp; try omega) _)))
  have HI2 := hide (Box.new w13 40 #[.int .i64 ba1, .slice A2 im1.length c2])
  replace HR2 := hide (HR2.out.call B14)
  replace HM2 := hide (HM2.out.call B14)
  replace HM3 := hide (HM3.out.call B14)
  replace HB := hide (HB.out.trans (B14.mono HB.out.size))
  replace HY := hide (HY.out.call B14)
  replace HI1 := hide (HI1.out.call B14)
  clear B14
  have y0 := HY.out.cell 0
  have y1 := HY.out.cell 1
  simp only [List.getElem?_toArray, List.getElem?_cons_zero, List.getElem?_cons_succ] at y0 y1
  have p0 := HI1.out.cell 0
  have p1 := HI1.out.cell 1
  simp only [List.getElem?_toArray, List.getElem?_cons_zero, List.getElem?_cons_succ] at p0 p1
  have q0 := HI2.out.cell 0
  have q1 := HI2.out.cell 1
  simp only [List.getElem?_toArray, List.getElem?_cons_zero, List.getElem?_cons_succ] at q0 q1
  go_wp2_with fail
  generalize w13.alloc (.cells #[.int .i64 ba1, .slice A2 im1.length c2] 40) = w14 at *
  generalize w13.heap.size = P2 at *
  have Z0 : w14.cell? ⟨Y, 0, none⟩ = some (.slice o2.A o2.ps.length o2.c) ∧ w14.cell? ⟨Y, 1, none⟩ = some (.slice o2.Y o2.ys.length o2.yc) ∧ w14.cell? ⟨P1, 0, none⟩ = some (.int .i64 ba1) ∧ w14.cell? ⟨P1, 1, none⟩ = some (.slice A1 im1.length c1) ∧ w14.cell? ⟨P2, 0, none⟩ = some (.int .i64 ba1) ∧ w14.cell? ⟨P2, 1, none⟩ = some (.slice A2 im1.length c2) := ⟨y0, y1, p0, p1, q0, q1⟩
  refine Reg.startT (fun W => W.cell? ⟨Y, 0, none⟩ = some (.slice o2.A o2.ps.length o2.c) ∧ W.cell? ⟨Y, 1, none⟩ = some (.slice o2.Y o2.ys.length o2.yc) ∧ W.cell? ⟨P1, 0, none⟩ = some (.int .i64 ba1) ∧ W.cell? ⟨P1, 1, none⟩ = some (.slice A1 im1.length c1) ∧ W.cell? ⟨P2, 0, none⟩ = some (.int .i64 ba1) ∧ W.cell? ⟨P2, 1, none⟩ = some (.slice A2 im1.length c2)) (fun _ => false) (by kernel_rfl) ?_
  have hHeld : w14.drew.cell? ⟨Y, 0, none⟩ = some (.slice o2.A o2.ps.length o2.c) ∧ w14.drew.cell? ⟨Y, 1, none⟩ = some (.slice o2.Y o2.ys.length o2.yc) ∧ w14.drew.cell? ⟨P1, 0, none⟩ = some (.int .i64 ba1) ∧ w14.drew.cell? ⟨P1, 1, none⟩ = some (.slice A1 im1.length c1) ∧ w14.drew.cell? ⟨P2, 0, none⟩ = some (.int .i64 ba1) ∧ w14.drew.cell? ⟨P2, 1, none⟩ = some (.slice A2 im1.length c2) := Z0
  clear Z0 y0 y1 p0 p1 q0 q1
  refine Reg.takeT (i := 0) (v := ?_) rfl (by kernel_rfl) (by kernel_rfl) (by kernel_rfl) (by kernel_rfl) (fun _ _ _ h => h) (Or.inl ⟨by rfl, ?_⟩) (by assumption) ?_
  rotate_left 1
  focus (intro w hSw; (try dsimp only at hSw); go_simp; (try with_reducible rfl))
  try simp only [List.getElem_toArray, List.getElem_cons_succ, List.getElem_cons_zero, Act.put, List.setIfInBounds_toArray, List.set_cons_zero, List.set_cons_succ]
  have bd : Below w14.heap.size w14 w14.drew := below_dr (Below.refl _ _)
  replace HR2 := hide (HR2.out.call bd)
  replace HM2 := hide (HM2.out.call bd)
  replace HM3 := hide (HM3.out.call bd)
  replace HB := hide (HB.out.trans (bd.mono HB.out.size))
  replace HY := hide (HY.out.call bd)
  replace HI1 := hide (HI1.out.call bd)
  replace HI2 := hide (HI2.out.call bd)
  clear bd
  generalize w14.drew = w15 at *
  refine Reg.oneT (i := 1) rfl (by kernel_rfl) (fun K hK => ?_)
  go_simp
  refine (objectValid_any o2 w15 HR2.out HF2.out).mono ?_
  rintro e w16 ⟨rfl, b16⟩
  rw [HOK2.out]
  replace HR2 := hide (HR2.out.call b16)
  replace HM2 := hide (HM2.out.call b16)
  replace HM3 := hide (HM3.out.call b16)
  replace HB := hide (HB.out.trans (b16.mono HB.out.size))
  replace HY := hide (HY.out.call b16)
  replace HI1 := hide (HI1.out.call b16)
  replace HI2 := hide (HI2.out.call b16)
  clear b16
  clear hHeld
  have y0 := HY.out.cell 0
  have y1 := HY.out.cell 1
  simp only [List.getElem?_toArray, List.getElem?_cons_zero, List.getElem?_cons_succ] at y0 y1
  have p0 := HI1.out.cell 0
  have p1 := HI1.out.cell 1
  simp only [List.getElem?_toArray, List.getElem?_cons_zero, List.getElem?_cons_succ] at p0 p1
  have q0 := HI2.out.cell 0
  have q1 := HI2.out.cell 1
  simp only [List.getElem?_toArray, List.getElem?_cons_zero, List.getElem?_cons_succ] at q0 q1
  have hHeld : w16.cell? ⟨Y, 0, none⟩ = some (.slice o2.A o2.ps.length o2.c) ∧ w16.cell? ⟨Y, 1, none⟩ = some (.slice o2.Y o2.ys.length o2.yc) ∧ w16.cell? ⟨P1, 0, none⟩ = some (.int .i64 ba1) ∧ w16.cell? ⟨P1, 1, none⟩ = some (.slice A1 im1.length c1) ∧ w16.cell? ⟨P2, 0, none⟩ = some (.int .i64 ba1) ∧ w16.cell? ⟨P2, 1, none⟩ = some (.slice A2 im1.length c2) := ⟨y0, y1, p0, p1, q0, q1⟩
  clear y0 y1 p0 p1 q0 q1
  refine hK.out _ _ hHeld ?_
  clear hK K
  try simp only [List.getElem_toArray, List.getElem_cons_succ, List.getElem_cons_zero, Act.put, List.setIfInBounds_toArray, List.set_cons_zero, List.set_cons_succ]
  refine Reg.takeT (i := 2) (v := ?_) rfl (by kernel_rfl) (by kernel_rfl) (by kernel_rfl) (by kernel_rfl) (fun _ _ _ h => h) (Or.inl ⟨by rfl, ?_⟩) (by assumption) ?_
  rotate_left 1
  focus (intro w hSw; (try dsimp only at hSw); go_simp; (try with_reducible rfl))
  try simp only [List.getElem_toArray, List.getElem_cons_succ, List.getElem_cons_zero, Act.put, List.setIfInBounds_toArray, List.set_cons_zero, List.set_cons_succ]
  refine Reg.takeT (i := 3) (v := ?_) rfl (by kernel_rfl) (by kernel_rfl) (by kernel_rfl) (by kernel_rfl) (fun _ _ _ h => h) (Or.inl ⟨by rfl, ?_⟩) (by assumption) ?_
  rotate_left 1
  focus (intro w hSw; (try dsimp only at hSw); go_simp; (try with_reducible rfl))
  try simp only [List.getElem_toArray, List.getElem_cons_succ, List.getElem_cons_zero, Act.put, List.setIfInBounds_toArray, List.set_cons_zero, List.set_cons_succ]
  refine Reg.takeT (i := 4) (v := ?_) rfl (by kernel_rfl) (by kernel_rfl) (by kernel_rfl) (by kernel_rfl) (fun _ _ _ h => h) (Or.inl ⟨by rfl, ?_⟩) (by assumption) ?_
  rotate_left 1
  focus (intro w hSw; (try dsimp only at hSw); go_simp; (try with_reducible rfl))
  try simp only [List.getElem_toArray, List.getElem_cons_succ, List.getElem_cons_zero, Act.put, List.setIfInBounds_toArray, List.set_cons_zero, List.set_cons_succ]
  refine Reg.takeT (i := 5) (v := ?_) rfl (by kernel_rfl) (by kernel_rfl) (by kernel_rfl) (by kernel_rfl) (fun _ _ _ h => h) (Or.inl ⟨by rfl, ?_⟩) (by assumption) ?_
  rotate_left 1
  focus (intro w hSw; (try dsimp only at hSw); go_simp; (try with_reducible rfl))
  try simp only [List.getElem_toArray, List.getElem_cons_succ, List.getElem_cons_zero, Act.put, List.setIfInBounds_toArray, List.set_cons_zero, List.set_cons_succ]
  refine Reg.takeT (i := 6) (v := ?_) rfl (by kernel_rfl) (by kernel_rfl) (by kernel_rfl) (by kernel_rfl) (fun _ _ _ h => h) (Or.inl ⟨by rfl, ?_⟩) (by assumption) ?_
  rotate_left 1
  focus (intro w hSw; (try dsimp only at hSw); go_simp; (try with_reducible rfl))
  try simp only [List.getElem_toArray, List.getElem_cons_succ, List.getElem_cons_zero, Act.put, List.setIfInBounds_toArray, List.set_cons_zero, List.set_cons_succ]
  refine Reg.takeT (i := 7) (v := ?_) rfl (by kernel_rfl) (by kernel_rfl) (by kernel_rfl) (by kernel_rfl) (fun _ _ _ h => h) (Or.inl ⟨by rfl, ?_⟩) (by assumption) ?_
  rotate_left 1
  focus (intro w hSw; (try dsimp only at hSw); go_simp; (try with_reducible rfl))
  try simp only [List.getElem_toArray, List.getElem_cons_succ, List.getElem_cons_zero, Act.put, List.setIfInBounds_toArray, List.set_cons_zero, List.set_cons_succ]
  refine Reg.takeT (i := 8) (v := ?_) rfl (by kernel_rfl) (by kernel_rfl) (by kernel_rfl) (by kernel_rfl) (fun _ _ _ h => h) (Or.inl ⟨by rfl, ?_⟩) (by assumption) ?_
  rotate_left 1
  focus (intro w hSw; (try dsimp only at hSw); go_simp; (try with_reducible rfl))
  try simp only [List.getElem_toArray, List.getElem_cons_succ, List.getElem_cons_zero, Act.put, List.setIfInBounds_toArray, List.set_cons_zero, List.set_cons_succ]
  refine Reg.takeT (i := 9) (v := ?_) rfl (by kernel_rfl) (by kernel_rfl) (by kernel_rfl) (by kernel_rfl) (fun _ _ _ h => h) (Or.inl ⟨by rfl, ?_⟩) (by assumption) ?_
  rotate_left 1
  focus (intro w hSw; (try dsimp only at hSw); go_simp; (try with_reducible rfl))
  try simp only [List.getElem_toArray, List.getElem_cons_succ, List.getElem_cons_zero, Act.put, List.setIfInBounds_toArray, List.set_cons_zero, List.set_cons_succ]
  refine Reg.oneT (i := 10) rfl (by kernel_rfl) (fun K hK => ?_)
  go_simp
  refine (sameImage_same ba1 A1 A2 im1 c1 c2 w16 HM2.out.rd HM3.out.rd (Nat.le_trans HM2.out.cap.1 HM2.out.cap.2)).mono ?_
  rintro e w17 ⟨rfl, b17⟩
  replace HR2 := hide (HR2.out.call b17)
  replace HB := hide (HB.out.trans (b17.mono HB.out.size))
  replace HY := hide (HY.out.call b17)
  replace HI1 := hide (HI1.out.call b17)
  replace HI2 := hide (HI2.out.call b17)
  clear b17
  clear hHeld HM2 HM3
  have y0 := HY.out.cell 0
  have y1 := HY.out.cell 1
  simp only [List.getElem?_toArray, List.getElem?_cons_zero, List.getElem?_cons_succ] at y0 y1
  have p0 := HI1.out.cell 0
  have p1 := HI1.out.cell 1
  simp only [List.getElem?_toArray, List.getElem?_cons_zero, List.getElem?_cons_succ] at p0 p1
  have q0 := HI2.out.cell 0
  have q1 := HI2.out.cell 1
  simp only [List.getElem?_toArray, List.getElem?_cons_zero, List.getElem?_cons_succ] at q0 q1
  have hHeld : w17.cell? ⟨Y, 0, none⟩ = some (.slice o2.A o2.ps.length o2.c) ∧ w17.cell? ⟨Y, 1, none⟩ = some (.slice o2.Y o2.ys.length o2.yc) ∧ w17.cell? ⟨P1, 0, none⟩ = some (.int .i64 ba1) ∧ w17.cell? ⟨P1, 1, none⟩ = some (.slice A1 im1.length c1) ∧ w17.cell? ⟨P2, 0, none⟩ = some (.int .i64 ba1) ∧ w17.cell? ⟨P2, 1, none⟩ = some (.slice A2 im1.length c2) := ⟨y0, y1, p0, p1, q0, q1⟩
  clear y0 y1 p0 p1 q0 q1
  refine hK.out _ _ hHeld ?_
  clear hK K
  try simp only [List.getElem_toArray, List.getElem_cons_succ, List.getElem_cons_zero, Act.put, List.setIfInBounds_toArray, List.set_cons_zero, List.set_cons_succ]
  refine Reg.takeT (i := 11) (v := ?_) rfl (by kernel_rfl) (by kernel_rfl) (by kernel_rfl) (by kernel_rfl) (fun _ _ _ h => h) (Or.inl ⟨by rfl, ?_⟩) (by assumption) ?_
  rotate_left 1
  focus (intro w hSw; (try dsimp only at hSw); go_simp; (try with_reducible rfl))
  try simp only [List.getElem_toArray, List.getElem_cons_succ, List.getElem_cons_zero, Act.put, List.setIfInBounds_toArray, List.set_cons_zero, List.set_cons_succ]
  refine Reg.takeT (i := 12) (v := ?_) rfl (by kernel_rfl) (by kernel_rfl) (by kernel_rfl) (by kernel_rfl) (fun _ _ _ h => h) (Or.inl ⟨by rfl, ?_⟩) (by assumption) ?_
  rotate_left 1
  focus (intro w hSw; (try dsimp only at hSw); go_simp; (try with_reducible rfl))
  try simp only [List.getElem_toArray, List.getElem_cons_succ, List.getElem_cons_zero, Act.put, List.setIfInBounds_toArray, List.set_cons_zero, List.set_cons_succ]
  refine Reg.takeT (i := 13) (v := ?_) rfl (by kernel_rfl) (by kernel_rfl) (by kernel_rfl) (by kernel_rfl) (fun _ _ _ h => h) (Or.inl ⟨by rfl, ?_⟩) (by assumption) ?_
  rotate_left 1
  focus (intro w hSw; (try dsimp only at hSw); go_simp; (try with_reducible rfl))
  try simp only [List.getElem_toArray, List.getElem_cons_succ, List.getElem_cons_zero, Act.put, List.setIfInBounds_toArray, List.set_cons_zero, List.set_cons_succ]
  refine Reg.takeT (i := 15) (v := ?_) rfl (by kernel_rfl) (by kernel_rfl) (by kernel_rfl) (by kernel_rfl) (fun _ _ _ h => h) (Or.inl ⟨by rfl, ?_⟩) (by assumption) ?_
  rotate_left 1
  focus (intro w hSw; (try dsimp only at hSw); go_simp; (try with_reducible rfl))
  try simp only [List.getElem_toArray, List.getElem_cons_succ, List.getElem_cons_zero, Act.put, List.setIfInBounds_toArray, List.set_cons_zero, List.set_cons_succ]
  refine Reg.oneT (i := 14) rfl (by kernel_rfl) (fun K hK => ?_)
  go_simp
  refine (CSort.sortSymbols_any o2 w17 HR2.out HF2.out HN2.out).mono ?_
  rintro e w18 ⟨o4, rfl, hd4, own4, b18⟩
  simp only [OV.v]
  have HD4 := hide (hd4.trans HAG.out)
  have HR4 := hide own4.rd
  replace HR2 := hide (HR2.out.call b18)
  replace HB := hide (HB.out.trans (b18.mono HB.out.size))
  replace HY := hide (HY.out.call b18)
  replace HI1 := hide (HI1.out.call b18)
  replace HI2 := hide (HI2.out.call b18)
  clear b18
  clear hHeld hd4 own4
  have y0 := HY.out.cell 0
  have y1 := HY.out.cell 1
  simp only [List.getElem?_toArray, List.getElem?_cons_zero, List.getElem?_cons_succ] at y0 y1
  have p0 := HI1.out.cell 0
  have p1 := HI1.out.cell 1
  simp only [List.getElem?_toArray, List.getElem?_cons_zero, List.getElem?_cons_succ] at p0 p1
  have q0 := HI2.out.cell 0
  have q1 := HI2.out.cell 1
  simp only [List.getElem?_toArray, List.getElem?_cons_zero, List.getElem?_cons_succ] at q0 q1
  have hHeld : w18.cell? ⟨Y, 0, none⟩ = some (.slice o2.A o2.ps.length o2.c) ∧ w18.cell? ⟨Y, 1, none⟩ = some (.slice o2.Y o2.ys.length o2.yc) ∧ w18.cell? ⟨P1, 0, none⟩ = some (.int .i64 ba1) ∧ w18.cell? ⟨P1, 1, none⟩ = some (.slice A1 im1.length c1) ∧ w18.cell? ⟨P2, 0, none⟩ = some (.int .i64 ba1) ∧ w18.cell? ⟨P2, 1, none⟩ = some (.slice A2 im1.length c2) := ⟨y0, y1, p0, p1, q0, q1⟩
  clear y0 y1 p0 p1 q0 q1
  refine hK.out _ _ hHeld ?_
  clear hK K
  try simp only [List.getElem_toArray, List.getElem_cons_succ, List.getElem_cons_zero, Act.put, List.setIfInBounds_toArray, List.set_cons_zero, List.set_cons_succ]
  refine Reg.oneT (i := 16) rfl (by kernel_rfl) (fun K hK => ?_)
  go_simp
  refine (sameObject_same o4 o2 HD4.out.symm w18 HR4.out HR2.out (by have h : Bnd o4.d := by rw [HD4.out, HD2.out]; exact bnd_sort HBD.out
                                                                     exact lim_bnd h)).mono ?_
  rintro e w19 ⟨rfl, b19⟩
  replace HB := hide (HB.out.trans (b19.mono HB.out.size))
  replace HY := hide (HY.out.call b19)
  replace HI1 := hide (HI1.out.call b19)
  replace HI2 := hide (HI2.out.call b19)
  clear b19
  clear hHeld
  have y0 := HY.out.cell 0
  have y1 := HY.out.cell 1
  simp only [List.getElem?_toArray, List.getElem?_cons_zero, List.getElem?_cons_succ] at y0 y1
  have p0 := HI1.out.cell 0
  have p1 := HI1.out.cell 1
  simp only [List.getElem?_toArray, List.getElem?_cons_zero, List.getElem?_cons_succ] at p0 p1
  have q0 := HI2.out.cell 0
  have q1 := HI2.out.cell 1
  simp only [List.getElem?_toArray, List.getElem?_cons_zero, List.getElem?_cons_succ] at q0 q1
  have hHeld : w19.cell? ⟨Y, 0, none⟩ = some (.slice o2.A o2.ps.length o2.c) ∧ w19.cell? ⟨Y, 1, none⟩ = some (.slice o2.Y o2.ys.length o2.yc) ∧ w19.cell? ⟨P1, 0, none⟩ = some (.int .i64 ba1) ∧ w19.cell? ⟨P1, 1, none⟩ = some (.slice A1 im1.length c1) ∧ w19.cell? ⟨P2, 0, none⟩ = some (.int .i64 ba1) ∧ w19.cell? ⟨P2, 1, none⟩ = some (.slice A2 im1.length c2) := ⟨y0, y1, p0, p1, q0, q1⟩
  clear y0 y1 p0 p1 q0 q1
  refine hK.out _ _ hHeld ?_
  clear hK K
  try simp only [List.getElem_toArray, List.getElem_cons_succ, List.getElem_cons_zero, Act.put, List.setIfInBounds_toArray, List.set_cons_zero, List.set_cons_succ]
  refine Reg.takeT (i := 17) (v := ?_) rfl (by kernel_rfl) (by kernel_rfl) (by kernel_rfl) (by kernel_rfl) (fun _ _ _ h => h) (Or.inl ⟨by rfl, ?_⟩) (by assumption) ?_
  rotate_left 1
  focus (intro w hSw; (try dsimp only at hSw); go_simp; (try with_reducible rfl))
  try simp only [List.getElem_toArray, List.getElem_cons_succ, List.getElem_cons_zero, Act.put, List.setIfInBounds_toArray, List.set_cons_zero, List.set_cons_succ]
  refine Reg.takeT (i := 18) (v := ?_) rfl (by kernel_rfl) (by kernel_rfl) (by kernel_rfl) (by kernel_rfl) (fun _ _ _ h => h) (Or.inl ⟨by rfl, ?_⟩) (by assumption) ?_
  rotate_left 1
  focus (intro w hSw; (try dsimp only at hSw); go_simp; (try with_reducible rfl))
  try simp only [List.getElem_toArray, List.getElem_cons_succ, List.getElem_cons_zero, Act.put, List.setIfInBounds_toArray, List.set_cons_zero, List.set_cons_succ]
  clear hHeld
  refine Reg.doneT (by kernel_rfl) ?_ _
  go_wp2_with fail
  go_ret
  exact ⟨rfl, HB.out⟩
end Go.Proofs.YtmglgjchemecjaaGreat.WFnSortSymbols

