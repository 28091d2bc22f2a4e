/- The draws of objects, and what their sizes give (without what StripWanted asks). -/
import Derived.Test.YtmglgjchemecjaaFnSameObjectM13
set_option linter.unusedSimpArgs false
set_option linter.unusedVariables false
namespace Go.Proofs.Ytmglgjchemecjaa.DDrawB
set_option maxRecDepth 200000
open Go.ChangeShapes Go.WideShapes Go.ChangeAt Go.RowKit Kit CCode CFixups CSymbols PObj BObj PValid CObjValid PWarn PClear DPick DVar DSection DObject CCopyS CCopyI
/-- Sizes of what is drawn, stripped or cleared. -/
def Bnd (d : OD) : Prop := d.ss.length ≤ 8 ∧ d.ys.length ≤ 13 ∧ (∀ s ∈ d.ss, s.nm.size ≤ 9 ∧ s.zs.length ≤ 49 ∧ s.fs.length ≤ 6) ∧ ∀ y ∈ d.ys, y.1.size ≤ 9
theorem bnd_small {d : OD} (h : SmallO d) : Bnd d := ⟨by have := h.1; omega, h.2.1, fun s hs => by
  have := h.2.2.1 s hs
  exact ⟨this.1, this.2.1, by have := this.2.2.2.1; omega⟩, h.2.2.2⟩
theorem bnd_nil : Bnd ⟨[], []⟩ := ⟨by simp, by simp, (fun s hs => absurd hs List.not_mem_nil), (fun s hs => absurd hs List.not_mem_nil)⟩
theorem bnd_clear {d : OD} (h : Bnd d) : Bnd (clearD d) := by
  unfold clearD
  cases objOk d
  · exact bnd_nil
  · refine ⟨by simpa using h.1, h.2.1, fun s hs => ?_, h.2.2.2⟩
    obtain ⟨p, hp, rfl⟩ := List.mem_map.1 hs
    have := h.2.2.1 p hp
    exact ⟨this.1, by show (clrs p.zs p.fs).length ≤ 49; rw [clrs_len]; exact this.2.1, this.2.2⟩
theorem bnd_fit {o : OV} {w : World} {base : Nat} (h : Bnd o.d) (ho : OwnO w base o) : Fit o ∧ (∀ p ∈ o.ps, p.zs.length ≤ p.c) := by
  have h1 : o.ps.length ≤ 8 := by simpa [OV.d] using h.1
  have h2 : o.ys.length ≤ 13 := h.2.1
  refine ⟨⟨by omega, by omega, ho.2.cap.1, fun p hp => ?_, fun y hy => ?_⟩, fun p hp => ((ho.1.2.1 p hp).1).cap.1⟩
  · have := h.2.2.1 p.d (List.mem_map_of_mem hp)
    have h3 : p.nm.size ≤ 9 ∧ p.zs.length ≤ 49 ∧ p.fs.length ≤ 6 := this
    unfold maxLen
    omega
  · have := h.2.2.2 y hy
    unfold maxLen
    omega
set_option maxHeartbeats 4000000 in
set_option maxHeartbeats 4000000 in
theorem draw_DrawClearFixups {A : Option Addr} {zs : List Int} {c : Nat} {w : World} (hr : Rd w w.heap.size A (ints .u8 zs)) (hz : InR 0 255 zs) (hc : zs.length ≤ c) (hcm : c ≤ maxLen) :
    Calls Try.prog 27 #[.slice A zs.length c] w (fun e w' => ∃ d, Bnd d ∧ RetO d w e w') := by
  have b0 : Below w.heap.size w (w.alloc (.cells #[.slice none 0 0, .slice none 0 0] 26)) := (by repeat (first | exact Below.refl _ _ | with_reducible assumption | (refine Below.drew ?_) | (refine Below.drewN ?_ _) | (refine Below.alloc ?_ (by simp; try omega) _) | (refine Below.setCell ?_ (by simp; try omega) _)))
  have HO := hide (open_any A zs c _ ((hr.below b0).more b0.size) hz hc hcm)
  have HX := hide (Box.new w 26 #[.slice none 0 0, .slice none 0 0])
  have HB0 := hide b0
  clear hr hz hc hcm b0
  go_enter Try.func27, Try.ntmps27
  go_wp2_with fail
  refine HO.out.mono ?_
  rintro e w1 ⟨R, rfl, T, b1⟩
  have T0 := Tp.start T
  have hRl := T.1
  have X1 := HX.out.call b1
  have B1 := HB0.out.trans (b1.mono HB0.out.size)
  have hY1 := X1.lt
  go_wp2_with fail
  refine (object_any T0 (by omega) (by omega) 9 (by omega) (by omega)).mono ?_
  rintro e w2 ⟨⟨A1, c1, ps, Y1, yc1, ys⟩, rfl, sm, own, T2, _⟩
  have hsz : (w.alloc (.cells #[.slice none 0 0, .slice none 0 0] 26)).heap.size = w.heap.size + 1 := by simp
  have X2 := X1.grown T2.2 (fun k hk => by injection hk with hk; omega)
  have B2 := B1.trans (T2.below B1.size (show w.heap.size ≤ R by omega))
  have HSM := hide (bnd_small sm)
  have HFIN := hide (CObject.ret_object (own.down B1.size) B2 (fun k hk e => by have := (own.lt k hk).1; omega) (Nat.le_refl _))
  have q0 := X2.cell 0
  have q1 := X2.cell 1
  have f0 := X2.frozen 0
  have f1 := X2.frozen 1
  have hxl := X2.lt
  have kk := (X2.set 0 (.slice A1 ps.length c1)).set 1 (.slice Y1 ys.length yc1)
  have k0 := kk.cell 0
  have k1 := kk.cell 1
  simp only [List.setIfInBounds_toArray, List.set_cons_zero, List.set_cons_succ, List.getElem?_toArray, List.getElem?_cons_zero, List.getElem?_cons_succ] at q0 q1 k0 k1
  clear X1 X2 T T0 T2 b1 B1 B2 hsz HX HO HB0 kk own sm hRl hY1
  simp only [OV.v]
  go_wp2_with fail
  exact bodyPost_ret (v := OV.v ⟨A1, c1, ps, Y1, yc1, ys⟩) (by simp [results, Try.results27, go_sem, OV.v, k0, k1]) rfl ⟨_, HSM.out, HFIN.out⟩
end Go.Proofs.Ytmglgjchemecjaa.DDrawB
/- DrawSameObject: two objects, the second one a copy of the first or a new one. -/
namespace Go.Proofs.Ytmglgjchemecjaa.DDrawS
set_option maxRecDepth 200000
open Go.ChangeShapes Go.WideShapes Go.ChangeAt Go.RowKit Kit CCode CFixups CSymbols PObj BObj BObj2 PValid CObjValid PWarn PClear DPick DVar DSection DObject CCopyS CCopyI DDrawB
theorem own_set4 {w : World} {base P Q : Nat} {o : OV} (h : OwnO w base o) (hP : P < base) (hQ : Q < base) (u v x y : Value) :
    OwnO ((((w.setCell ⟨P, 0, none⟩ u).setCell ⟨P, 1, none⟩ v).setCell ⟨Q, 0, none⟩ x).setCell ⟨Q, 1, none⟩ y) base o := by
  have hp : ∀ k, oblk o k → k ≠ P := fun k hk e => by have := (h.lt k hk).1; omega
  have hq : ∀ k, oblk o k → k ≠ Q := fun k hk e => by have := (h.lt k hk).1; omega
  exact OwnO.set (a := ⟨Q, 1, none⟩) (OwnO.set (a := ⟨Q, 0, none⟩) (OwnO.set (a := ⟨P, 1, none⟩) (OwnO.set (a := ⟨P, 0, none⟩) h hp u) hp v) hq x) hq y
def DrewTwo (w : World) (e : Ending) (w' : World) : Prop := ∃ a b : OV, e = .returned (.tuple #[a.v, b.v]) ∧ SmallO a.d ∧ SmallO b.d ∧ OwnO w' w.heap.size a ∧ OwnO w' w.heap.size b ∧ Below w.heap.size w w'
set_option maxHeartbeats 4000000 in
theorem draw_DrawSameObject {A : Option Addr} {zs : List Int} {c : Nat} {w : World} (hr : Rd w w.heap.size A (ints .u8 zs)) (hz : InR 0 255 zs) (hc : zs.length ≤ c) (hcm : c ≤ maxLen) :
    Calls Try.prog 33 #[.slice A zs.length c] w (DrewTwo w) := by
  have b0 : Below w.heap.size w ((w.alloc (.cells #[.slice none 0 0, .slice none 0 0] 26)).alloc (.cells #[.slice none 0 0, .slice none 0 0] 26)) := (by repeat (first | exact Below.refl _ _ | with_reducible assumption | (refine Below.drew ?_) | (refine Below.drewN ?_ _) | (refine Below.alloc ?_ (by simp; try omega) _) | (refine Below.setCell ?_ (by simp; try omega) _)))
  have HO := hide (open_any A zs c _ ((hr.below b0).more b0.size) hz hc hcm)
  have HP := hide ((Box.new w 26 #[.slice none 0 0, .slice none 0 0]).alloc (.cells #[.slice none 0 0, .slice none 0 0] 26))
  have HQ0 := Box.new (w.alloc (.cells #[.slice none 0 0, .slice none 0 0] 26)) 26 #[.slice none 0 0, .slice none 0 0]
  rw [World.size_alloc] at HQ0
  have HQ := hide HQ0
  have HB := hide b0
  clear hr hz hc hcm b0 HQ0
  go_enter Try.func33, Try.ntmps33
  go_wp2_with fail
  have hs0 : ((w.alloc (.cells #[.slice none 0 0, .slice none 0 0] 26)).alloc (.cells #[.slice none 0 0, .slice none 0 0] 26)).heap.size = w.heap.size + 2 := by simp
  generalize (w.alloc (.cells #[.slice none 0 0, .slice none 0 0] 26)).alloc (.cells #[.slice none 0 0, .slice none 0 0] 26) = w0 at *
  refine HO.out.mono ?_
  rintro e w1 ⟨R, rfl, T, b1⟩
  have hw1 : w.heap.size + 2 ≤ w1.heap.size := by have := b1.size; omega
  have HW1 := hide hw1
  have T0 := Tp.start T
  have hRl := T.1
  have HWW := hide hw1
  have hRw := T0.lt
  have hR2 : w.heap.size + 2 ≤ R := by omega
  clear hs0
  replace HB := hide (HB.out.trans (b1.mono HB.out.size))
  replace HP := hide (HP.out.call b1)
  replace HQ := hide (HQ.out.call b1)
  clear b1
  clear HO
  go_wp2_with fail
  refine (object_any T0 (by omega) (by omega) 6 (by omega) (by omega)).mono ?_
  rintro e w2 ⟨a, rfl, sma, owna, T2, ga⟩
  have hw12 := T2.2.size
  have HSA := hide sma
  have HA := hide owna
  replace HP := hide (HP.out.grown ga (by intro k hk; injection hk with hk; omega))
  replace HQ := hide (HQ.out.grown ga (by intro k hk; injection hk with hk; omega))
  replace HB := hide (HB.out.trans (T2.below HB.out.size (show w.heap.size ≤ R by omega)))
  have HT := hide T2
  clear sma owna ga T T0 T2
  simp only [OV.v]
  have B3 : Below w2.heap.size w2 (w2.alloc (.cells #[.slice a.A a.ps.length a.c, .slice a.Y a.ys.length a.yc] 26)) := (by repeat (first | exact Below.refl _ _ | with_reducible assumption | (refine Below.drew ?_) | (refine Below.drewN ?_ _) | (refine Below.alloc ?_ (by simp; try omega) _) | (refine Below.setCell ?_ (by simp; try omega) _)))
  have HX := hide (Box.new w2 26 #[.slice a.A a.ps.length a.c, .slice a.Y a.ys.length a.yc])
  replace HT := hide (HT.out.call B3)
  have hw2 := HT.out.lt
  replace HB := hide (HB.out.trans (B3.mono HB.out.size))
  replace HP := hide (HP.out.call B3)
  replace HQ := hide (HQ.out.call B3)
  replace HA := hide (HA.out.call B3)
  clear B3
  go_wp2_with fail
  have HWX := hide (show w.heap.size + 2 ≤ w2.heap.size from by have := HW1.out; omega)
  have hRX : R < w2.heap.size := by omega
  clear hw1 hRl hw12
  generalize w2.alloc (.cells #[.slice a.A a.ps.length a.c, .slice a.Y a.ys.length a.yc] 26) = w3 at *
  generalize w2.heap.size = X at *
  refine (pick_tp HT.out (by omega) 2 (by omega) (by omega)).mono ?_
  rintro e w4 ⟨x, rfl, x0, x1, T4, g4⟩
  replace HP := hide (HP.out.grown g4 (by intro k hk; injection hk with hk; omega))
  replace HQ := hide (HQ.out.grown g4 (by intro k hk; injection hk with hk; omega))
  replace HX := hide (HX.out.grown g4 (by intro k hk; injection hk with hk; omega))
  replace HA := hide (HA.out.grownR g4 (by omega))
  replace HB := hide (HB.out.grown g4 HB.out.size (by intro k hk; injection hk with hk; omega))
  replace HT := hide T4
  clear T4 g4
  have HF := hide (bnd_fit (bnd_small HSA.out) HA.out).1
  have HN := hide (nils_own HA.out)
  have HS2 := hide (show a.ps.length ≤ 100 ∧ a.ys.length ≤ 100 from by
    have h1 := HSA.out.1
    have h2 := HSA.out.2.1
    simp only [OV.d, List.length_map] at h1 h2
    omega)
  by_cases hx : x = 0
  · subst hx
    have x0 := HX.out.cell 0
    have x1 := HX.out.cell 1
    simp only [List.getElem?_toArray, List.getElem?_cons_zero, List.getElem?_cons_succ] at x0 x1
    go_wp2_with fail
    refine Reg.startT (fun W => W.cell? ⟨X, 0, none⟩ = some (.slice a.A a.ps.length a.c) ∧ W.cell? ⟨X, 1, none⟩ = some (.slice a.Y a.ys.length a.yc)) (fun _ => false) (by kernel_rfl) ?_
    have hHeld : w4.drew.cell? ⟨X, 0, none⟩ = some (.slice a.A a.ps.length a.c) ∧ w4.drew.cell? ⟨X, 1, none⟩ = some (.slice a.Y a.ys.length a.yc) := ⟨x0, x1⟩
    clear x0 x1
    have bd : Below w4.heap.size w4 w4.drew := below_dr (Below.refl _ _)
    replace HB := hide (HB.out.trans (bd.mono HB.out.size))
    replace HP := hide (HP.out.call bd)
    replace HQ := hide (HQ.out.call bd)
    replace HX := hide (HX.out.call bd)
    replace HA := hide (HA.out.call bd)
    clear bd
    generalize w4.drew = w5 at *
    refine Reg.takeT (i := 0) (v := ?_) rfl (by kernel_rfl) (by kernel_rfl) (by kernel_rfl) (by kernel_rfl) (fun _ _ _ h => h) (Or.inl ⟨by rfl, ?_⟩) (by assumption) ?_
    rotate_left 1
    focus (intro w hSw; (try dsimp only at hSw); go_simp; (try with_reducible rfl))
    try simp only [List.getElem_toArray, List.getElem_cons_succ, List.getElem_cons_zero, Act.put, List.setIfInBounds_toArray, List.set_cons_zero, List.set_cons_succ]
    refine Reg.takeT (i := 1) (v := ?_) rfl (by kernel_rfl) (by kernel_rfl) (by kernel_rfl) (by kernel_rfl) (fun _ _ _ h => h) (Or.inl ⟨by rfl, ?_⟩) (by assumption) ?_
    rotate_left 1
    focus (intro w hSw; (try dsimp only at hSw); go_simp; (try with_reducible rfl))
    try simp only [List.getElem_toArray, List.getElem_cons_succ, List.getElem_cons_zero, Act.put, List.setIfInBounds_toArray, List.set_cons_zero, List.set_cons_succ]
    refine Reg.oneT (i := 2) rfl (by kernel_rfl) (fun K hK => ?_)
    go_simp
    refine (l4Copy_any a w5 HA.out.rd HF.out HN.out HS2.out).mono ?_
    rintro e w6 ⟨b, rfl, hdb, ownb, b6⟩
    have HBW := hide ownb
    have HDB := hide hdb
    have hw56 : w.heap.size + 2 ≤ w5.heap.size := by have := HX.out.lt; have := HWX.out; omega
    replace HB := hide (HB.out.trans (b6.mono HB.out.size))
    replace HP := hide (HP.out.call b6)
    replace HQ := hide (HQ.out.call b6)
    replace HX := hide (HX.out.call b6)
    replace HA := hide (HA.out.call b6)
    clear b6
    clear hdb ownb hHeld
    have x0 := HX.out.cell 0
    have x1 := HX.out.cell 1
    simp only [List.getElem?_toArray, List.getElem?_cons_zero, List.getElem?_cons_succ] at x0 x1
    simp only [OV.v]
    refine hK.out _ _ ⟨x0, x1⟩ ?_
    have hHeld := And.intro x0 x1
    clear hK K x0 x1
    try simp only [List.getElem_toArray, List.getElem_cons_succ, List.getElem_cons_zero, Act.put, List.setIfInBounds_toArray, List.set_cons_zero, List.set_cons_succ]
    have p0 := HP.out.cell 0
    have p1 := HP.out.cell 1
    simp only [List.getElem?_toArray, List.getElem?_cons_zero, List.getElem?_cons_succ] at p0 p1
    have fp0 := HP.out.frozen 0
    have fp1 := HP.out.frozen 1
    have hpl := HP.out.lt
    refine Reg.oneT (i := 3) rfl (by kernel_rfl) (fun K hK => ?_)
    go_simp
    have hw6 : w.heap.size + 2 ≤ X := HWX.out
    have HX7 := hide ((HX.out.far (p := ⟨w.heap.size, 0, none⟩) (by show X ≠ w.heap.size; omega) (.slice a.A a.ps.length a.c)).far (p := ⟨w.heap.size, 1, none⟩) (by show X ≠ w.heap.size; omega) (.slice a.Y a.ys.length a.yc))
    have HQ7 := hide ((HQ.out.far (p := ⟨w.heap.size, 0, none⟩) (by show w.heap.size + 1 ≠ w.heap.size; omega) (.slice a.A a.ps.length a.c)).far (p := ⟨w.heap.size, 1, none⟩) (by show w.heap.size + 1 ≠ w.heap.size; omega) (.slice a.Y a.ys.length a.yc))
    have HP7 := hide ((HP.out.set 0 (.slice a.A a.ps.length a.c)).set 1 (.slice a.Y a.ys.length a.yc))
    refine hK.out _ _ ⟨by simpa using HX7.out.cell 0, by simpa using HX7.out.cell 1⟩ ?_
    clear hK K p0 p1 fp0 fp1 hpl hHeld
    try simp only [List.getElem_toArray, List.getElem_cons_succ, List.getElem_cons_zero, Act.put, List.setIfInBounds_toArray, List.set_cons_zero, List.set_cons_succ]
    have q0 := HQ7.out.cell 0
    have q1 := HQ7.out.cell 1
    simp only [List.getElem?_toArray, List.getElem?_cons_zero, List.getElem?_cons_succ] at q0 q1
    have fq0 := HQ7.out.frozen 0
    have fq1 := HQ7.out.frozen 1
    have hql := HQ7.out.lt
    refine Reg.oneT (i := 4) rfl (by kernel_rfl) (fun K hK => ?_)
    go_simp
    have HX8 := hide ((HX7.out.far (p := ⟨w.heap.size + 1, 0, none⟩) (by show X ≠ w.heap.size + 1; omega) (.slice b.A b.ps.length b.c)).far (p := ⟨w.heap.size + 1, 1, none⟩) (by show X ≠ w.heap.size + 1; omega) (.slice b.Y b.ys.length b.yc))
    have HP8 := hide ((HP7.out.far (p := ⟨w.heap.size + 1, 0, none⟩) (by show w.heap.size ≠ w.heap.size + 1; omega) (.slice b.A b.ps.length b.c)).far (p := ⟨w.heap.size + 1, 1, none⟩) (by show w.heap.size ≠ w.heap.size + 1; omega) (.slice b.Y b.ys.length b.yc))
    have HQ8 := hide ((HQ7.out.set 0 (.slice b.A b.ps.length b.c)).set 1 (.slice b.Y b.ys.length b.yc))
    refine hK.out _ _ ⟨by simpa using HX8.out.cell 0, by simpa using HX8.out.cell 1⟩ ?_
    clear hK K q0 q1 fq0 fq1 hql
    try simp only [List.getElem_toArray, List.getElem_cons_succ, List.getElem_cons_zero, Act.put, List.setIfInBounds_toArray, List.set_cons_zero, List.set_cons_succ]
    have k0 := HP8.out.cell 0
    have k1 := HP8.out.cell 1
    have k2 := HQ8.out.cell 0
    have k3 := HQ8.out.cell 1
    simp only [List.setIfInBounds_toArray, List.set_cons_zero, List.set_cons_succ, List.getElem?_toArray, List.getElem?_cons_zero, List.getElem?_cons_succ] at k0 k1 k2 k3
    have hpl := HP8.out.lt
    have hql := HQ8.out.lt
    have HFIN := hide (show OwnO ((((w6.setCell ⟨w.heap.size, 0, none⟩ (.slice a.A a.ps.length a.c)).setCell ⟨w.heap.size, 1, none⟩ (.slice a.Y a.ys.length a.yc)).setCell ⟨w.heap.size + 1, 0, none⟩ (.slice b.A b.ps.length b.c)).setCell ⟨w.heap.size + 1, 1, none⟩ (.slice b.Y b.ys.length b.yc)) w.heap.size a ∧ OwnO ((((w6.setCell ⟨w.heap.size, 0, none⟩ (.slice a.A a.ps.length a.c)).setCell ⟨w.heap.size, 1, none⟩ (.slice a.Y a.ys.length a.yc)).setCell ⟨w.heap.size + 1, 0, none⟩ (.slice b.A b.ps.length b.c)).setCell ⟨w.heap.size + 1, 1, none⟩ (.slice b.Y b.ys.length b.yc)) w.heap.size b ∧ Below w.heap.size w ((((w6.setCell ⟨w.heap.size, 0, none⟩ (.slice a.A a.ps.length a.c)).setCell ⟨w.heap.size, 1, none⟩ (.slice a.Y a.ys.length a.yc)).setCell ⟨w.heap.size + 1, 0, none⟩ (.slice b.A b.ps.length b.c)).setCell ⟨w.heap.size + 1, 1, none⟩ (.slice b.Y b.ys.length b.yc)) from
      ⟨(own_set4 HA.out (by have := HWW.out; omega) (by have := HWW.out; omega) _ _ _ _).down (by have := HWW.out; omega), (own_set4 HBW.out (by omega) (by omega) _ _ _ _).down (by omega),
        (((HB.out.setCell (p := ⟨w.heap.size, 0, none⟩) (Nat.le_refl _) _).setCell (p := ⟨w.heap.size, 1, none⟩) (Nat.le_refl _) _).setCell (p := ⟨w.heap.size + 1, 0, none⟩) (Nat.le_succ _) _).setCell (p := ⟨w.heap.size + 1, 1, none⟩) (Nat.le_succ _) _⟩)
    refine Reg.doneT (by kernel_rfl) ?_ _
    go_wp2_with fail
    exact bodyPost_ret (v := .tuple #[OV.v a, OV.v b]) (by simp [results, Try.results33, go_sem, OV.v, k0, k1, k2, k3]) rfl ⟨a, b, rfl, HSA.out, (by rw [HDB.out]; exact HSA.out), HFIN.out.1, HFIN.out.2.1, HFIN.out.2.2⟩
  · have hxe : (x == 0) = false := beq_eq_false_iff_ne.2 hx
    clear hx HF HN HS2
    have x0 := HX.out.cell 0
    have x1 := HX.out.cell 1
    simp only [List.getElem?_toArray, List.getElem?_cons_zero, List.getElem?_cons_succ] at x0 x1
    go_wp2_with fail
    refine Reg.startT (fun W => W.cell? ⟨X, 0, none⟩ = some (.slice a.A a.ps.length a.c) ∧ W.cell? ⟨X, 1, none⟩ = some (.slice a.Y a.ys.length a.yc)) (fun _ => false) (by kernel_rfl) ?_
    have hHeld : w4.drew.cell? ⟨X, 0, none⟩ = some (.slice a.A a.ps.length a.c) ∧ w4.drew.cell? ⟨X, 1, none⟩ = some (.slice a.Y a.ys.length a.yc) := ⟨x0, x1⟩
    clear x0 x1
    replace HT := hide HT.out.drew
    have bd : Below w4.heap.size w4 w4.drew := below_dr (Below.refl _ _)
    replace HB := hide (HB.out.trans (bd.mono HB.out.size))
    replace HP := hide (HP.out.call bd)
    replace HQ := hide (HQ.out.call bd)
    replace HX := hide (HX.out.call bd)
    replace HA := hide (HA.out.call bd)
    clear bd
    generalize w4.drew = w5 at *
    refine Reg.takeT (i := 0) (v := ?_) rfl (by kernel_rfl) (by kernel_rfl) (by kernel_rfl) (by kernel_rfl) (fun _ _ _ h => h) (Or.inl ⟨by rfl, ?_⟩) (by assumption) ?_
    rotate_left 1
    focus (intro w hSw; (try dsimp only at hSw); go_simp; (try with_reducible rfl))
    try simp only [List.getElem_toArray, List.getElem_cons_succ, List.getElem_cons_zero, Act.put, List.setIfInBounds_toArray, List.set_cons_zero, List.set_cons_succ]
    refine Reg.takeT (i := 1) (v := ?_) rfl (by kernel_rfl) (by kernel_rfl) (by kernel_rfl) (by kernel_rfl) (fun _ _ _ h => h) (Or.inl ⟨by rfl, ?_⟩) (by assumption) ?_
    rotate_left 1
    focus (intro w hSw; (try dsimp only at hSw); go_simp; (try with_reducible rfl))
    try simp only [List.getElem_toArray, List.getElem_cons_succ, List.getElem_cons_zero, Act.put, List.setIfInBounds_toArray, List.set_cons_zero, List.set_cons_succ]
    refine Reg.oneT (i := 2) rfl (by kernel_rfl) (fun K hK => ?_)
    go_simp
    refine (object_any HT.out (by omega) (by omega) 6 (by omega) (by omega)).mono ?_
    rintro e w6 ⟨b, rfl, smb, ownb, T6, g6⟩
    have HBW := hide ownb
    have HSB := hide smb
    have hw56 : w.heap.size + 2 ≤ w5.heap.size := by have := HX.out.lt; have := HWX.out; omega
    replace HP := hide (HP.out.grown g6 (by intro k hk; injection hk with hk; omega))
    replace HQ := hide (HQ.out.grown g6 (by intro k hk; injection hk with hk; omega))
    replace HX := hide (HX.out.grown g6 (by intro k hk; injection hk with hk; omega))
    replace HA := hide (HA.out.grownR g6 (by omega))
    replace HB := hide (HB.out.grown g6 HB.out.size (by intro k hk; injection hk with hk; omega))
    clear smb ownb hHeld T6 g6 HT
    have x0 := HX.out.cell 0
    have x1 := HX.out.cell 1
    simp only [List.getElem?_toArray, List.getElem?_cons_zero, List.getElem?_cons_succ] at x0 x1
    simp only [OV.v]
    refine hK.out _ _ ⟨x0, x1⟩ ?_
    have hHeld := And.intro x0 x1
    clear hK K x0 x1
    try simp only [List.getElem_toArray, List.getElem_cons_succ, List.getElem_cons_zero, Act.put, List.setIfInBounds_toArray, List.set_cons_zero, List.set_cons_succ]
    have p0 := HP.out.cell 0
    have p1 := HP.out.cell 1
    simp only [List.getElem?_toArray, List.getElem?_cons_zero, List.getElem?_cons_succ] at p0 p1
    have fp0 := HP.out.frozen 0
    have fp1 := HP.out.frozen 1
    have hpl := HP.out.lt
    refine Reg.oneT (i := 3) rfl (by kernel_rfl) (fun K hK => ?_)
    go_simp
    have hw6 : w.heap.size + 2 ≤ X := HWX.out
    have HX7 := hide ((HX.out.far (p := ⟨w.heap.size, 0, none⟩) (by show X ≠ w.heap.size; omega) (.slice a.A a.ps.length a.c)).far (p := ⟨w.heap.size, 1, none⟩) (by show X ≠ w.heap.size; omega) (.slice a.Y a.ys.length a.yc))
    have HQ7 := hide ((HQ.out.far (p := ⟨w.heap.size, 0, none⟩) (by show w.heap.size + 1 ≠ w.heap.size; omega) (.slice a.A a.ps.length a.c)).far (p := ⟨w.heap.size, 1, none⟩) (by show w.heap.size + 1 ≠ w.heap.size; omega) (.slice a.Y a.ys.length a.yc))
    have HP7 := hide ((HP.out.set 0 (.slice a.A a.ps.length a.c)).set 1 (.slice a.Y a.ys.length a.yc))
    refine hK.out _ _ ⟨by simpa using HX7.out.cell 0, by simpa using HX7.out.cell 1⟩ ?_
    clear hK K p0 p1 fp0 fp1 hpl hHeld
    try simp only [List.getElem_toArray, List.getElem_cons_succ, List.getElem_cons_zero, Act.put, List.setIfInBounds_toArray, List.set_cons_zero, List.set_cons_succ]
    have q0 := HQ7.out.cell 0
    have q1 := HQ7.out.cell 1
    simp only [List.getElem?_toArray, List.getElem?_cons_zero, List.getElem?_cons_succ] at q0 q1
    have fq0 := HQ7.out.frozen 0
    have fq1 := HQ7.out.frozen 1
    have hql := HQ7.out.lt
    refine Reg.oneT (i := 4) rfl (by kernel_rfl) (fun K hK => ?_)
    go_simp
    have HX8 := hide ((HX7.out.far (p := ⟨w.heap.size + 1, 0, none⟩) (by show X ≠ w.heap.size + 1; omega) (.slice b.A b.ps.length b.c)).far (p := ⟨w.heap.size + 1, 1, none⟩) (by show X ≠ w.heap.size + 1; omega) (.slice b.Y b.ys.length b.yc))
    have HP8 := hide ((HP7.out.far (p := ⟨w.heap.size + 1, 0, none⟩) (by show w.heap.size ≠ w.heap.size + 1; omega) (.slice b.A b.ps.length b.c)).far (p := ⟨w.heap.size + 1, 1, none⟩) (by show w.heap.size ≠ w.heap.size + 1; omega) (.slice b.Y b.ys.length b.yc))
    have HQ8 := hide ((HQ7.out.set 0 (.slice b.A b.ps.length b.c)).set 1 (.slice b.Y b.ys.length b.yc))
    refine hK.out _ _ ⟨by simpa using HX8.out.cell 0, by simpa using HX8.out.cell 1⟩ ?_
    clear hK K q0 q1 fq0 fq1 hql
    try simp only [List.getElem_toArray, List.getElem_cons_succ, List.getElem_cons_zero, Act.put, List.setIfInBounds_toArray, List.set_cons_zero, List.set_cons_succ]
    have k0 := HP8.out.cell 0
    have k1 := HP8.out.cell 1
    have k2 := HQ8.out.cell 0
    have k3 := HQ8.out.cell 1
    simp only [List.setIfInBounds_toArray, List.set_cons_zero, List.set_cons_succ, List.getElem?_toArray, List.getElem?_cons_zero, List.getElem?_cons_succ] at k0 k1 k2 k3
    have hpl := HP8.out.lt
    have hql := HQ8.out.lt
    have HFIN := hide (show OwnO ((((w6.setCell ⟨w.heap.size, 0, none⟩ (.slice a.A a.ps.length a.c)).setCell ⟨w.heap.size, 1, none⟩ (.slice a.Y a.ys.length a.yc)).setCell ⟨w.heap.size + 1, 0, none⟩ (.slice b.A b.ps.length b.c)).setCell ⟨w.heap.size + 1, 1, none⟩ (.slice b.Y b.ys.length b.yc)) w.heap.size a ∧ OwnO ((((w6.setCell ⟨w.heap.size, 0, none⟩ (.slice a.A a.ps.length a.c)).setCell ⟨w.heap.size, 1, none⟩ (.slice a.Y a.ys.length a.yc)).setCell ⟨w.heap.size + 1, 0, none⟩ (.slice b.A b.ps.length b.c)).setCell ⟨w.heap.size + 1, 1, none⟩ (.slice b.Y b.ys.length b.yc)) w.heap.size b ∧ Below w.heap.size w ((((w6.setCell ⟨w.heap.size, 0, none⟩ (.slice a.A a.ps.length a.c)).setCell ⟨w.heap.size, 1, none⟩ (.slice a.Y a.ys.length a.yc)).setCell ⟨w.heap.size + 1, 0, none⟩ (.slice b.A b.ps.length b.c)).setCell ⟨w.heap.size + 1, 1, none⟩ (.slice b.Y b.ys.length b.yc)) from
      ⟨(own_set4 HA.out (by have := HWW.out; omega) (by have := HWW.out; omega) _ _ _ _).down (by have := HWW.out; omega), (own_set4 HBW.out (by omega) (by omega) _ _ _ _).down (by omega),
        (((HB.out.setCell (p := ⟨w.heap.size, 0, none⟩) (Nat.le_refl _) _).setCell (p := ⟨w.heap.size, 1, none⟩) (Nat.le_refl _) _).setCell (p := ⟨w.heap.size + 1, 0, none⟩) (Nat.le_succ _) _).setCell (p := ⟨w.heap.size + 1, 1, none⟩) (Nat.le_succ _) _⟩)
    refine Reg.doneT (by kernel_rfl) ?_ _
    go_wp2_with fail
    exact bodyPost_ret (v := .tuple #[OV.v a, OV.v b]) (by simp [results, Try.results33, go_sem, OV.v, k0, k1, k2, k3]) rfl ⟨a, b, rfl, HSA.out, HSB.out, HFIN.out.1, HFIN.out.2.1, HFIN.out.2.2⟩
end Go.Proofs.Ytmglgjchemecjaa.DDrawS
/- Valid objects with the same bytes are the same; plain. -/
namespace Go.Proofs.Ytmglgjchemecjaa.PInj
set_option maxRecDepth 200000
open Go.ChangeShapes Go.WideShapes Go.ChangeAt Go.RowKit Kit CCode CName CNumber CFixups CSymbols PObj PValid PWarn PClear CObjValid PLink PLinkL CSorted CNames CNameTab CTable CTableOf CPlOf CHead CWriteO CWriteB PIns
theorem name_nz {s : ByteArray} (h : nameOk s = true) : ∀ x ∈ strI s, x ≠ 0 := by
  intro x hx
  obtain ⟨b, hb, rfl⟩ := List.mem_map.1 hx
  obtain ⟨k, hk, rfl⟩ := List.mem_iff_getElem.1 hb
  rw [nameOk, Bool.and_eq_true, allOk, List.all_eq_true] at h
  have hks : k < s.size := by simpa using hk
  have h1 := h.1 k (List.mem_range.2 hks)
  rw [List.getD_eq_getElem?_getD, List.getElem?_eq_getElem hk] at h1
  simp only [Option.getD_some, chOk, Bool.or_eq_true, Bool.and_eq_true, decide_eq_true_eq] at h1
  omega
theorem str_strI (s : ByteArray) : strOfNums (strI s) = s := by
  unfold strOfNums strI
  rw [List.map_map]
  have e : s.data.toList.map ((fun n : Int => UInt8.ofNat n.toNat) ∘ fun b : UInt8 => (b.toNat : Int)) = s.data.toList := by
    conv => rhs; rw [← List.map_id s.data.toList]
    refine List.map_congr_left fun b _ => ?_
    simp
  rw [e]
theorem cut_at : ∀ (xs r : List Int), (∀ x ∈ xs, x ≠ 0) → cutZ (xs ++ 0 :: r) = some xs
  | [], r, _ => by simp [cutZ]
  | x :: xs, r, h => by
    rw [List.cons_append, cutZ, if_neg (h x List.mem_cons_self), cut_at xs r fun y hy => h y (List.mem_cons_of_mem _ hy)]
    rfl
theorem suf_iff (o n : ByteArray) : Lib.hasSuffix o.data.toList n.data.toList = true ↔ n.data.toList <:+ o.data.toList := by unfold Lib.hasSuffix; simp
theorem top_name (all : List ByteArray) (h8 : ∀ x ∈ all, x.size ≤ 8) : ∀ (d : Nat) (n : ByteArray), n ∈ all → 8 - n.size ≤ d → ∃ m ∈ all, n.data.toList <:+ m.data.toList ∧ CNameTab.endsIn all m = false := by
  intro d
  induction d with
  | zero =>
    intro n hn hd
    refine ⟨n, hn, List.suffix_refl _, ?_⟩
    rw [← Bool.not_eq_true, CNameTab.endsIn, List.any_eq_true]
    rintro ⟨o, ho, hs⟩
    simp only [sfxP, sfx, Bool.and_eq_true, Bool.not_eq_true', decide_eq_false_iff_not] at hs
    have h1 := (suf_iff o n).1 hs.2
    have h2 := h1.length_le
    have h3 := h8 o ho
    have h4 := h8 n hn
    have h5 : n.data.toList = o.data.toList := h1.eq_of_length (by simp at h2 ⊢; omega)
    exact hs.1 (ByteArray.ext (Array.toList_inj.1 h5.symm))
  | succ d ih =>
    intro n hn hd
    cases he : CNameTab.endsIn all n
    · exact ⟨n, hn, List.suffix_refl _, he⟩
    · rw [CNameTab.endsIn, List.any_eq_true] at he
      obtain ⟨o, ho, hs⟩ := he
      simp only [sfxP, sfx, Bool.and_eq_true, Bool.not_eq_true', decide_eq_false_iff_not] at hs
      have h1 := (suf_iff o n).1 hs.2
      have h2 := h1.length_le
      have h3 : n.size < o.size := by
        simp at h2
        rcases Nat.lt_or_ge n.size o.size with q | q
        · exact q
        · have h5 : n.data.toList = o.data.toList := h1.eq_of_length (by simp; omega)
          exact absurd (ByteArray.ext (Array.toList_inj.1 h5.symm)) hs.1
      have h4 := h8 o ho
      obtain ⟨m, hm, k1, k2⟩ := ih o ho (by omega)
      exact ⟨m, hm, h1.trans k1, k2⟩
theorem tab_find {ns : List ByteArray} (hok : namesOk ns = true) {n : ByteArray} (hn : n ∈ ns) : ∃ k, k < (tabN ns).length ∧ nmAt (tabN ns) k = some n := by
  have hall : ∀ x ∈ srtN ns, nameOk x = true := fun x hx => by
    rw [namesOk, Bool.and_eq_true, List.all_eq_true] at hok
    exact hok.2 x (srt_mem hx)
  have hnz := name_nz (hall n (((srt_spec ns).2 n).2 hn))
  obtain ⟨m, hm, hsu, he⟩ := top_name (srtN ns) (fun x hx => name_size (hall x hx)) 8 n (((srt_spec ns).2 n).2 hn) (by omega)
  have ht : tabN ns = tabL (srtN ns) := by unfold tabN; rw [hok]; rfl
  rw [ht]
  obtain ⟨l1, l2, hl⟩ := List.append_of_mem hm
  obtain ⟨pre, hp⟩ := hsu
  have hmI : strI m = pre.map (fun b => (b.toNat : Int)) ++ strI n := by
    unfold strI
    rw [← hp, List.map_append]
  have hst : tabStep (srtN ns) m = strI m ++ [0] := by unfold tabStep; rw [he]; rfl
  have htb : tabL (srtN ns) = (0 :: (l1.flatMap (tabStep (srtN ns)) ++ pre.map (fun b => (b.toNat : Int)))) ++ (strI n ++ 0 :: l2.flatMap (tabStep (srtN ns))) := by
    unfold tabL
    conv => lhs; rw [show (srtN ns).flatMap (tabStep (srtN ns)) = (l1 ++ m :: l2).flatMap (tabStep (srtN ns)) from by rw [← hl]]
    rw [List.flatMap_append, List.flatMap_cons, hst, hmI]
    simp
  rw [htb]
  refine ⟨(0 :: (l1.flatMap (tabStep (srtN ns)) ++ pre.map (fun b => (b.toNat : Int)))).length, by simp; omega, ?_⟩
  unfold nmAt
  rw [List.drop_left, cut_at _ _ hnz, Option.map_some, str_strI]
theorem plGo_found {t : List Int} {s : ByteArray} : ∀ (n k j : Nat), k ≤ j → j < k + n → nmAt t j = some s → ∃ i : Nat, plGo t s n k = i ∧ i < k + n ∧ nmAt t i = some s
  | 0, k, j, h1, h2, _ => by omega
  | n + 1, k, j, h1, h2, h => by
    rw [plGo]
    by_cases hk : nmAt t k = some s
    · rw [if_pos hk]
      exact ⟨k, rfl, by omega, hk⟩
    · rw [if_neg hk]
      have hne : k ≠ j := fun e => hk (e ▸ h)
      obtain ⟨i, e, hi, hx⟩ := plGo_found n (k + 1) j (by omega) (by omega) h
      exact ⟨i, e, by omega, hx⟩
theorem pl_found {ns : List ByteArray} (hok : namesOk ns = true) {n : ByteArray} (hn : n ∈ ns) : ∃ i : Nat, plOf (tabN ns) n = i ∧ i < (tabN ns).length ∧ nmAt (tabN ns) i = some n := by
  obtain ⟨k, hk, h⟩ := tab_find hok hn
  obtain ⟨i, e, hi, hx⟩ := plGo_found (tabN ns).length 0 k (by omega) (by omega) h
  exact ⟨i, e, by omega, hx⟩
theorem b8_id {x : Int} (h : 0 ≤ x ∧ x ≤ 255) : b8 x = x := by unfold b8; rw [IntKind.wrap_u8]; omega
theorem pnum_id {x : Int} (h : 0 ≤ x ∧ x ≤ 65535) : pnum x 2 = [x % 256, x / 256 % 256] := by rw [pnum2 h.1 h.2]; rfl
theorem two_inj {x y : Int} (h : 0 ≤ x ∧ x ≤ 65535) (h' : 0 ≤ y ∧ y ≤ 65535) (h1 : x % 256 = y % 256) (h2 : x / 256 % 256 = y / 256 % 256) : x = y := by omega
/-- What a valid section's numbers are within. -/
structure VS (s : SD) : Prop where
  kd : 0 ≤ s.kd ∧ s.kd ≤ 255
  al : 0 ≤ s.al ∧ s.al ≤ 255
  sz : 0 ≤ secSize s ∧ secSize s ≤ 255
  fl : s.fs.length ≤ 255
  zl : (s.zs.length : Int) = if s.kd = 3 then 0 else secSize s
  z : s.sz = if s.kd = 3 then secSize s else 0
  f : ∀ f ∈ s.fs, (0 ≤ f.1 ∧ f.1 ≤ 255) ∧ (0 ≤ f.2.1 ∧ f.2.1 ≤ 255) ∧ (0 ≤ f.2.2.1 ∧ f.2.2.1 ≤ 255) ∧ -1000 ≤ f.2.2.2 ∧ f.2.2.2 ≤ 1000
theorem wide_kind {k : Int} (h : 0 < wide k) : 0 ≤ k ∧ k ≤ 255 := by
  unfold wide at h
  split at h
  · omega
  · split at h
    · omega
    · split at h <;> omega
theorem vs_of {many : Int} {s : SD} (h : secOk many s = true) (hm : many ≤ 12) : VS s := by
  have h1 := sec_all h
  have h2 := sec_pl h
  have hf : ∀ f ∈ s.fs, (0 ≤ f.1 ∧ f.1 ≤ 255) ∧ (0 ≤ f.2.1 ∧ f.2.1 ≤ 255) ∧ (0 ≤ f.2.2.1 ∧ f.2.2.1 ≤ 255) ∧ -1000 ≤ f.2.2.2 ∧ f.2.2.2 ≤ 1000 := fun f hf => by
    obtain ⟨⟨a1, a2, a3⟩, a4, a5⟩ := h1.2.2 f hf
    have h48 := h1.2.1
    exact ⟨by omega, wide_kind a3, by omega, h2 f hf⟩
  rw [secOk, Bool.and_eq_true] at h
  obtain ⟨hh, h⟩ := h
  simp only [PValid.headOk, Bool.and_eq_true, inB, decide_eq_true_eq, alignOk, Bool.or_eq_true] at hh
  have hal : 0 ≤ s.al ∧ s.al ≤ 255 := by omega
  by_cases hk : s.kd = 3
  · rw [if_pos hk] at h
    simp only [blankOk, Bool.and_eq_true, inB, decide_eq_true_eq] at h
    refine ⟨by omega, hal, ?_, by omega, ?_, ?_, hf⟩
    · unfold secSize; rw [if_pos hk]; omega
    · rw [if_pos hk]; omega
    · unfold secSize; rw [if_pos hk, if_pos hk]
  · rw [if_neg hk] at h
    simp only [bodyOk, Bool.and_eq_true, decide_eq_true_eq] at h
    refine ⟨by omega, hal, ?_, by omega, ?_, ?_, hf⟩
    · unfold secSize; rw [if_neg hk]; omega
    · unfold secSize; rw [if_neg hk, if_neg hk]
    · rw [if_neg hk]; omega
/-- Where a name stands tells the name, in names that are found. -/
def Fnd (t : List Int) (n : ByteArray) : Prop := ∃ i : Nat, plOf t n = i ∧ i ≤ 65535 ∧ nmAt t i = some n
theorem fnd_inj {t : List Int} {n m : ByteArray} (h : Fnd t n) (h' : Fnd t m) (e : plOf t n = plOf t m) : n = m := by
  obtain ⟨i, e1, _, x1⟩ := h
  obtain ⟨j, e2, _, x2⟩ := h'
  have : i = j := by omega
  subst this
  rw [x1] at x2
  exact Option.some.inj x2
theorem fnd_bd {t : List Int} {n : ByteArray} (h : Fnd t n) : 0 ≤ plOf t n ∧ plOf t n ≤ 65535 := by
  obtain ⟨i, e1, hi, _⟩ := h
  omega
theorem secB_eq {t : List Int} {s : SD} (h : Fnd t s.nm) (v : VS s) : secB t s = [plOf t s.nm % 256, plOf t s.nm / 256 % 256, s.kd, s.al, secSize s, s.fs.length] := by
  unfold secB
  rw [pnum_id (fnd_bd h), b8_id v.kd, b8_id v.al, b8_id v.sz, b8_id ⟨by omega, by have := v.fl; omega⟩]
  rfl
theorem symB_eq {t : List Int} {y : YD} (h : Fnd t y.1) (h1 : 0 ≤ y.2.1 ∧ y.2.1 ≤ 255) (h2 : 0 ≤ y.2.2.1 + 2 ∧ y.2.2.1 + 2 ≤ 255) (h3 : 0 ≤ y.2.2.2 ∧ y.2.2.2 ≤ 65535) : symB t y = [plOf t y.1 % 256, plOf t y.1 / 256 % 256, y.2.1, y.2.2.1 + 2, y.2.2.2 % 256, y.2.2.2 / 256 % 256] := by
  unfold symB
  rw [pnum_id (fnd_bd h), b8_id h1, b8_id h2, pnum_id h3]
  rfl
theorem fixB_eq {f : FD} (h : (0 ≤ f.1 ∧ f.1 ≤ 255) ∧ (0 ≤ f.2.1 ∧ f.2.1 ≤ 255) ∧ (0 ≤ f.2.2.1 ∧ f.2.2.1 ≤ 255) ∧ -1000 ≤ f.2.2.2 ∧ f.2.2.2 ≤ 1000) : fixB f = [f.1, f.2.1, f.2.2.1, (f.2.2.2 + 1000) % 256, (f.2.2.2 + 1000) / 256 % 256] := by
  unfold fixB
  rw [b8_id h.1, b8_id h.2.1, b8_id h.2.2.1, pnum_id (by omega)]
  rfl
/-- A valid symbol's numbers. -/
structure VY (y : YD) : Prop where
  b : 0 ≤ y.2.1 ∧ y.2.1 ≤ 255
  w : 0 ≤ y.2.2.1 + 2 ∧ y.2.2.1 + 2 ≤ 255
  v : 0 ≤ y.2.2.2 ∧ y.2.2.2 ≤ 65535
theorem vy_of {ss : List SD} {y : YD} (h : symOk ss y = true) (h8 : ss.length ≤ 8) (hs : ∀ s ∈ ss, VS s) : VY y := by
  rw [symOk, Bool.and_eq_true] at h
  obtain ⟨hb, hp⟩ := h
  simp only [bindOk, Bool.and_eq_true, inB, decide_eq_true_eq] at hb
  unfold placeOk at hp
  split at hp
  · simp only [Bool.and_eq_true, decide_eq_true_eq] at hp
    exact ⟨by omega, by omega, by omega⟩
  · split at hp
    · simp only [inB, decide_eq_true_eq] at hp
      exact ⟨by omega, by omega, by omega⟩
    · simp only [inB, Bool.and_eq_true, decide_eq_true_eq] at hp
      refine ⟨by omega, by omega, ?_⟩
      have hlt : y.2.2.1.toNat < ss.length := by omega
      have hv := hs _ (List.getElem_mem hlt)
      have e : ss.getD y.2.2.1.toNat ⟨ByteArray.empty, 0, 0, [], 0, []⟩ = ss[y.2.2.1.toNat] := by rw [List.getD_eq_getElem?_getD, List.getElem?_eq_getElem hlt]; rfl
      rw [e] at hp
      have := hv.sz
      omega
/-- What the row of a section tells. -/
def key (s : SD) : ByteArray × Int × Int × Int × Nat := (s.nm, s.kd, s.al, secSize s, s.fs.length)
theorem sec_key {t : List Int} {s s' : SD} (h : Fnd t s.nm) (h' : Fnd t s'.nm) (v : VS s) (v' : VS s') (e : secB t s = secB t s') : key s = key s' := by
  rw [secB_eq h v, secB_eq h' v'] at e
  simp only [List.cons.injEq, and_true] at e
  obtain ⟨e1, e2, e3, e4, e5, e6⟩ := e
  have := fnd_inj h h' (two_inj (fnd_bd h) (fnd_bd h') e1 e2)
  unfold key
  rw [this, e3, e4, e5, show s.fs.length = s'.fs.length from by omega]
theorem sym_inj {t : List Int} {y y' : YD} (h : Fnd t y.1) (h' : Fnd t y'.1) (v : VY y) (v' : VY y') (e : symB t y = symB t y') : y = y' := by
  rw [symB_eq h v.b v.w v.v, symB_eq h' v'.b v'.w v'.v] at e
  simp only [List.cons.injEq, and_true] at e
  obtain ⟨e1, e2, e3, e4, e5, e6⟩ := e
  have k1 := fnd_inj h h' (two_inj (fnd_bd h) (fnd_bd h') e1 e2)
  have k2 := two_inj v.v v'.v e5 e6
  obtain ⟨a, b, c, d⟩ := y
  obtain ⟨a', b', c', d'⟩ := y'
  simp only at k1 k2 e3 e4 ⊢
  rw [k1, k2, e3, show c = c' from by omega]
theorem fix_inj {f f' : FD} (h : (0 ≤ f.1 ∧ f.1 ≤ 255) ∧ (0 ≤ f.2.1 ∧ f.2.1 ≤ 255) ∧ (0 ≤ f.2.2.1 ∧ f.2.2.1 ≤ 255) ∧ -1000 ≤ f.2.2.2 ∧ f.2.2.2 ≤ 1000) (h' : (0 ≤ f'.1 ∧ f'.1 ≤ 255) ∧ (0 ≤ f'.2.1 ∧ f'.2.1 ≤ 255) ∧ (0 ≤ f'.2.2.1 ∧ f'.2.2.1 ≤ 255) ∧ -1000 ≤ f'.2.2.2 ∧ f'.2.2.2 ≤ 1000) (e : fixB f = fixB f') : f = f' := by
  rw [fixB_eq h, fixB_eq h'] at e
  simp only [List.cons.injEq, and_true] at e
  obtain ⟨e1, e2, e3, e4, e5⟩ := e
  have k := two_inj (x := f.2.2.2 + 1000) (y := f'.2.2.2 + 1000) (by omega) (by omega) e4 e5
  obtain ⟨a, b, c, d⟩ := f
  obtain ⟨a', b', c', d'⟩ := f'
  simp only at k e1 e2 e3 ⊢
  rw [e1, e2, e3, show d = d' from by omega]
/-- Rows of pieces that are as long as each other. -/
theorem flat_eq {α β γ : Type} {f : α → List γ} {g : β → List γ} : ∀ {xs : List α} {ys : List β} {r r' : List γ}, xs.length = ys.length →
    (∀ (i : Nat) (h : i < xs.length) (h' : i < ys.length), (f xs[i]).length = (g ys[i]).length) → xs.flatMap f ++ r = ys.flatMap g ++ r' → (∀ (i : Nat) (h : i < xs.length) (h' : i < ys.length), f xs[i] = g ys[i]) ∧ r = r'
  | [], [], r, r', _, _, e => ⟨(fun i h => absurd h (Nat.not_lt_zero i)), by simpa using e⟩
  | [], _ :: _, _, _, h, _, _ => by simp at h
  | _ :: _, [], _, _, h, _, _ => by simp at h
  | x :: xs, y :: ys, r, r', h, hl, e => by
    rw [List.flatMap_cons, List.flatMap_cons, List.append_assoc, List.append_assoc] at e
    obtain ⟨e1, e2⟩ := List.append_inj e (hl 0 (by simp) (by simp))
    obtain ⟨i1, i2⟩ := flat_eq (by simpa using h) (fun i h1 h2 => hl (i + 1) (by simp; omega) (by simp; omega)) e2
    refine ⟨fun i h1 h2 => ?_, i2⟩
    cases i with
    | zero => exact e1
    | succ i => exact i1 i (by simpa using h1) (by simpa using h2)
theorem inj {d d' : OD} (h : objOk d = true) (h' : objOk d' = true) (e : writeB d = writeB d') : d = d' := by
  obtain ⟨g8, g12, gs, gy, _⟩ := (obj_iff d).1 h
  obtain ⟨g8', g12', gs', gy', _⟩ := (obj_iff d').1 h'
  have vs : ∀ s ∈ d.ss, VS s := fun s hs => vs_of (gs s hs) (by omega)
  have vs' : ∀ s ∈ d'.ss, VS s := fun s hs => vs_of (gs' s hs) (by omega)
  have vy : ∀ y ∈ d.ys, VY y := fun y hy => vy_of (gy y hy) g8 vs
  have vy' : ∀ y ∈ d'.ys, VY y := fun y hy => vy_of (gy' y hy) g8' vs'
  have fx := fixN_bd d.ss fun s hs => ((obj_all h).2.2 s hs).1
  have fx' := fixN_bd d'.ss fun s hs => ((obj_all h').2.2 s hs).1
  have no : ∀ {d : OD}, objOk d = true → namesOk (namesD d) = true ∧ (tabN (namesD d)).length ≤ 181 ∧ ∀ n ∈ namesD d, Fnd (tabD d) n := by
    intro d h
    obtain ⟨g8, g12, gs, gy, _⟩ := (obj_iff d).1 h
    have hno : namesOk (namesD d) = true := by
      unfold namesOk namesD
      simp only [Bool.and_eq_true, decide_eq_true_eq, List.all_eq_true]
      refine ⟨by simp; omega, fun x hx => ?_⟩
      rcases List.mem_append.1 hx with hx | hx
      · obtain ⟨s, hs, rfl⟩ := List.mem_map.1 hx
        have := gs s hs
        simp only [secOk, PValid.headOk, Bool.and_eq_true] at this
        exact this.1.1.1
      · obtain ⟨y, hy, rfl⟩ := List.mem_map.1 hx
        have := gy y hy
        simp only [symOk, bindOk, Bool.and_eq_true] at this
        exact this.1.1
    have hall : ∀ x ∈ srtN (namesD d), x.size ≤ 8 := fun x hx => by
      rw [namesOk, Bool.and_eq_true, List.all_eq_true] at hno
      exact name_size (hno.2 x (srt_mem hx))
    have hl : (tabN (namesD d)).length ≤ 181 := by
      have e : tabN (namesD d) = tabL (srtN (namesD d)) := by unfold tabN; rw [hno]; rfl
      rw [e]
      have h1 := (tab_len hall).2
      have h2 := srt_len_le (namesD d)
      have h3 : (namesD d).length = d.ss.length + d.ys.length := by simp [namesD]
      omega
    refine ⟨hno, hl, fun n hn => ?_⟩
    obtain ⟨i, e, hi, hx⟩ := pl_found hno hn
    exact ⟨i, e, by omega, hx⟩
  obtain ⟨_, tl, fd⟩ := no h
  obtain ⟨_, tl', fd'⟩ := no h'
  unfold writeB headB at e
  have e0 := e
  simp only [List.append_assoc] at e0
  obtain ⟨k1, e0⟩ := List.append_inj e0 rfl
  simp only [List.cons.injEq, true_and, and_true] at k1
  obtain ⟨k1, k2, k3⟩ := k1
  obtain ⟨k4, e0⟩ := List.append_inj e0 (by rw [putL_len, putL_len])
  obtain ⟨_, e0⟩ := List.append_inj e0 rfl
  have k4 : (tabD d).length = (tabD d').length := by
    have q1 : putL 2 (tabD d).length = [((tabD d).length : Int) % 256, ((tabD d).length : Int) / 256 % 256] := rfl
    have q2 : putL 2 (tabD d').length = [((tabD d').length : Int) % 256, ((tabD d').length : Int) / 256 % 256] := rfl
    rw [q1, q2] at k4
    simp only [List.cons.injEq, and_true] at k4
    have t1 : (tabD d).length ≤ 181 := tl
    have t2 : (tabD d').length ≤ 181 := tl'
    omega
  have k1 : d.ss.length = d'.ss.length := by omega
  have k2 : d.ys.length = d'.ys.length := by omega
  have sl : ∀ s ∈ d.ss, (secB (tabD d) s).length = 6 := fun s hs => by
    rw [secB_eq (fd _ (List.mem_append_left _ (List.mem_map_of_mem hs))) (vs s hs)]
    rfl
  have sl' : ∀ s ∈ d'.ss, (secB (tabD d') s).length = 6 := fun s hs => by
    rw [secB_eq (fd' _ (List.mem_append_left _ (List.mem_map_of_mem hs))) (vs' s hs)]
    rfl
  have yl : ∀ y ∈ d.ys, (symB (tabD d) y).length = 6 := fun y hy => by
    rw [symB_eq (fd _ (List.mem_append_right _ (List.mem_map_of_mem hy))) (vy y hy).b (vy y hy).w (vy y hy).v]
    rfl
  have yl' : ∀ y ∈ d'.ys, (symB (tabD d') y).length = 6 := fun y hy => by
    rw [symB_eq (fd' _ (List.mem_append_right _ (List.mem_map_of_mem hy))) (vy' y hy).b (vy' y hy).w (vy' y hy).v]
    rfl
  obtain ⟨q1, e0⟩ := flat_eq (f := secB (tabD d)) (g := secB (tabD d')) k1 (fun i h1 h2 => by rw [sl _ (List.getElem_mem h1), sl' _ (List.getElem_mem h2)]) e0
  obtain ⟨q2, e0⟩ := flat_eq (f := symB (tabD d)) (g := symB (tabD d')) k2 (fun i h1 h2 => by rw [yl _ (List.getElem_mem h1), yl' _ (List.getElem_mem h2)]) e0
  -- how many fixups each section has stands in its row
  have fl : ∀ (i : Nat) (h1 : i < d.ss.length) (h2 : i < d'.ss.length), d.ss[i].fs.length = d'.ss[i].fs.length := fun i h1 h2 => by
    have a := q1 i h1 h2
    rw [secB_eq (fd _ (List.mem_append_left _ (List.mem_map_of_mem (List.getElem_mem h1)))) (vs _ (List.getElem_mem h1)), secB_eq (fd' _ (List.mem_append_left _ (List.mem_map_of_mem (List.getElem_mem h2)))) (vs' _ (List.getElem_mem h2))] at a
    simp only [List.cons.injEq, and_true] at a
    omega
  have f5 : ∀ s ∈ d.ss, ∀ f ∈ s.fs, (fixB f).length = 5 := fun s hs f hf => by rw [fixB_eq ((vs s hs).f f hf)]; rfl
  have f5' : ∀ s ∈ d'.ss, ∀ f ∈ s.fs, (fixB f).length = 5 := fun s hs f hf => by rw [fixB_eq ((vs' s hs).f f hf)]; rfl
  have len5 : ∀ (l : List FD), (∀ f ∈ l, (fixB f).length = 5) → (l.flatMap fixB).length = 5 * l.length := by
    intro l
    induction l with
    | nil => intro _; rfl
    | cons f fs ih =>
      intro hl
      rw [List.flatMap_cons, List.length_append, hl f List.mem_cons_self, ih fun g hg => hl g (List.mem_cons_of_mem _ hg), List.length_cons]
      omega
  obtain ⟨q3, e0⟩ := flat_eq (f := fun s : SD => s.fs.flatMap fixB) (g := fun s : SD => s.fs.flatMap fixB) k1 (fun i h1 h2 => by rw [len5 _ (f5 _ (List.getElem_mem h1)), len5 _ (f5' _ (List.getElem_mem h2)), fl i h1 h2]) e0
  obtain ⟨q4, e0⟩ := List.append_inj e0 k4
  have ky : ∀ (i : Nat) (h1 : i < d.ss.length) (h2 : i < d'.ss.length), key d.ss[i] = key d'.ss[i] := fun i h1 h2 => by
    have a := q1 i h1 h2
    rw [← q4] at a fd'
    exact sec_key (fd _ (List.mem_append_left _ (List.mem_map_of_mem (List.getElem_mem h1)))) (fd' _ (List.mem_append_left _ (List.mem_map_of_mem (List.getElem_mem h2)))) (vs _ (List.getElem_mem h1)) (vs' _ (List.getElem_mem h2)) a
  have zl : ∀ (i : Nat) (h1 : i < d.ss.length) (h2 : i < d'.ss.length), d.ss[i].zs.length = d'.ss[i].zs.length := fun i h1 h2 => by
    have a := ky i h1 h2
    simp only [key, Prod.mk.injEq] at a
    have b1 := (vs _ (List.getElem_mem h1)).zl
    have b2 := (vs' _ (List.getElem_mem h2)).zl
    rw [a.2.1, a.2.2.2.1] at b1
    rw [← b2] at b1
    omega
  have e1 : d.ss.flatMap (fun s => s.zs) ++ [] = d'.ss.flatMap (fun s => s.zs) ++ [] := by rw [e0]
  obtain ⟨q5, _⟩ := flat_eq (f := fun s : SD => s.zs) (g := fun s : SD => s.zs) k1 zl e1
  have hss : d.ss = d'.ss := by
    refine List.ext_getElem k1 fun i h1 h2 => ?_
    have a := ky i h1 h2
    simp only [key, Prod.mk.injEq] at a
    obtain ⟨a1, a2, a3, a4, a5⟩ := a
    have z := q5 i h1 h2
    have f := q3 i h1 h2
    have v := vs _ (List.getElem_mem h1)
    have v' := vs' _ (List.getElem_mem h2)
    have w1 := v.z
    have w2 := v'.z
    rw [a2, a4] at w1
    rw [← w2] at w1
    have f2 : d.ss[i].fs = d'.ss[i].fs := by
      have f1 : d.ss[i].fs.flatMap fixB ++ [] = d'.ss[i].fs.flatMap fixB ++ [] := by rw [f]
      obtain ⟨r, _⟩ := flat_eq (f := fixB) (g := fixB) a5 (fun j j1 j2 => by rw [f5 _ (List.getElem_mem h1) _ (List.getElem_mem j1), f5' _ (List.getElem_mem h2) _ (List.getElem_mem j2)]) f1
      exact List.ext_getElem a5 fun j j1 j2 => fix_inj (v.f _ (List.getElem_mem j1)) (v'.f _ (List.getElem_mem j2)) (r j j1 j2)
    clear f v v' w2
    generalize d.ss[i] = s at *
    generalize d'.ss[i] = s' at *
    obtain ⟨nm, kd, al, zs, sz, fs⟩ := s
    obtain ⟨nm', kd', al', zs', sz', fs'⟩ := s'
    simp only at a1 a2 a3 z w1 f2
    rw [a1, a2, a3, z, w1, f2]
  have hys : d.ys = d'.ys := by
    refine List.ext_getElem k2 fun i h1 h2 => ?_
    have a := q2 i h1 h2
    rw [← q4] at a fd'
    exact sym_inj (fd _ (List.mem_append_right _ (List.mem_map_of_mem (List.getElem_mem h1)))) (fd' _ (List.mem_append_right _ (List.mem_map_of_mem (List.getElem_mem h2)))) (vy _ (List.getElem_mem h1)) (vy' _ (List.getElem_mem h2)) a
  obtain ⟨ss, ys⟩ := d
  obtain ⟨ss', ys'⟩ := d'
  simp only at hss hys
  rw [hss, hys]
end Go.Proofs.Ytmglgjchemecjaa.PInj
/- The laws' question whether the program is there at all: it answers true. -/
namespace Go.Proofs.Ytmglgjchemecjaa.CAlive
set_option maxRecDepth 200000
open Go.ChangeShapes Go.WideShapes Go.ChangeAt Go.RowKit Kit CCode
theorem isAlign4 (w : World) : Calls Try.prog 114 #[.int .i64 4] w (Pure (.bool true) w) := by
  go_enter Try.func114, Try.ntmps114
  go_wp2
  go_ret
  exact ⟨rfl, rfl⟩
theorem aligned54 (w : World) : Calls Try.prog 116 #[.int .i64 5, .int .i64 4] w (Pure (.int .i64 8) w) := by
  go_enter Try.func116, Try.ntmps116
  go_wp2
  go_ret
  exact ⟨rfl, rfl⟩
theorem alignUp54 (w : World) : Calls Try.prog 52 #[.int .i64 5, .int .i64 4] w (Pure (.int .i64 8) w) := by
  have hb : inB 5 0 1000000 = true := by decide
  go_enter Try.func52, Try.ntmps52
  go_wp2_with (first | (go_at_call 114; refine (isAlign4 _).mono ?_; rintro e w' ⟨rfl, rfl⟩) | (go_at_call 116; refine (aligned54 _).mono ?_; rintro e w' ⟨rfl, rfl⟩) | (first | (go_at_call 115; refine (within_any _ _ _ _).mono ?_; rintro e w' ⟨rfl, rfl⟩) | (go_at_call 110; refine (l1In_any _ _ _ _).mono ?_; rintro e w' ⟨rfl, rfl⟩) | fail))
  go_ret
  exact ⟨rfl, rfl⟩
theorem alive_any (w : World) : Calls Try.prog 15 #[] w (Pure (.bool true) w) := by
  go_enter Try.func15, Try.ntmps15
  go_wp2_with (go_at_call 52; refine (alignUp54 _).mono ?_; rintro e w' ⟨rfl, rfl⟩)
  go_ret
  exact ⟨rfl, rfl⟩
end Go.Proofs.Ytmglgjchemecjaa.CAlive
/- The walk of FnSameObject. -/
namespace Go.Proofs.Ytmglgjchemecjaa.WFnSameObject
set_option maxRecDepth 200000
open Go.ChangeShapes Go.WideShapes Go.ChangeAt Go.RowKit Kit CCode CFixups CSymbols PObj BObj PValid CObjValid CSections CObject CMarkRows CCopyS CSameObj DSection DObject DDrawB DDrawS CSameG
theorem four {w w' : World} {a b : Nat} {u0 u1 v0 v1 : Value} (hb : Below w.heap.size w w') (ha : a < w.heap.size) (hb' : b < w.heap.size) (h : w.cell? ⟨a, 0, none⟩ = some u0 ∧ w.cell? ⟨a, 1, none⟩ = some u1 ∧ w.cell? ⟨b, 0, none⟩ = some v0 ∧ w.cell? ⟨b, 1, none⟩ = some v1) :
    w'.cell? ⟨a, 0, none⟩ = some u0 ∧ w'.cell? ⟨a, 1, none⟩ = some u1 ∧ w'.cell? ⟨b, 0, none⟩ = some v0 ∧ w'.cell? ⟨b, 1, none⟩ = some v1 :=
  ⟨(hb.cell ha).trans h.1, (hb.cell ha).trans h.2.1, (hb.cell hb').trans h.2.2.1, (hb.cell hb').trans h.2.2.2⟩
theorem same_comm (x y : OD) : sameB x y = sameB y x := by
  unfold sameB
  have e : decide (CWriteB.writeB x = CWriteB.writeB y) = decide (CWriteB.writeB y = CWriteB.writeB x) := decide_eq_decide.2 eq_comm
  rw [e]
  cases objOk x <;> cases objOk y <;> rfl
theorem same_self (x : OD) : sameB x x = objOk x := by
  unfold sameB
  rw [decide_eq_true rfl]
  cases objOk x <;> rfl
theorem same_inj {x y : OD} (h : objOk x = true) (h' : objOk y = true) : decide (x = y) = sameB x y := by
  unfold sameB
  rw [h, h', Bool.true_and, Bool.true_and]
  exact decide_eq_decide.2 ⟨fun e => by rw [e], fun e => PInj.inj h h' e⟩
theorem inR_small {o : OV} (h : SmallO o.d) : ∀ p ∈ o.ps, InR 0 255 p.zs := fun p hp => (h.2.2.1 p.d (List.mem_map_of_mem hp)).2.2.1
theorem lim_small {o : OV} (h : SmallO o.d) : Lim o := by
  obtain ⟨h1, h2, h3, _⟩ := h
  simp only [OV.d, List.length_map] at h1 h2
  refine ⟨by omega, by omega, fun p hp => ?_⟩
  obtain ⟨_, a2, _, a3, _⟩ := h3 p.d (List.mem_map_of_mem hp)
  simp only [SV.d] at a2 a3
  omega
set_option maxHeartbeats 8000000 in
theorem walk (A : Option Addr) (zs : List Int) (c : Nat) (hl : zs.length ≤ c) (hc : c ≤ maxLen) (hz : InR 0 255 zs) (w : World) (hr : Rd w w.heap.size A (ints .u8 zs)) :
    Calls Try.prog 8 #[.slice A zs.length c] w (LawEnds w) := by
  have hcm := hc
  unfold maxLen at hcm
  have HD := hide (draw_DrawSameObject hr hz hl hc)
  clear hr hz hc
  by_cases hbig : 1048576 < zs.length
  · go_enter Try.func8, Try.ntmps8
    go_wp2_with fail
    go_ret
    exact ⟨rfl, Below.refl _ _⟩
  go_enter Try.func8, Try.ntmps8
  go_wp2_with fail
  refine HD.out.mono ?_
  rintro e w1 ⟨a, b, rfl, sa, sb, oa, ob, b1⟩
  have HA := hide oa
  have HBB := hide ob
  have HB := hide b1
  have HFa := hide (bnd_fit (bnd_small sa) oa).1
  have HFb := hide (bnd_fit (bnd_small sb) ob).1
  have HNa := hide (show ∀ p ∈ a.ps, p.A = none → p.c = 0 from fun p hp => ((nils_own oa).2 p hp).1)
  have HNb := hide (show ∀ p ∈ b.ps, p.A = none → p.c = 0 from fun p hp => ((nils_own ob).2 p hp).1)
  have HIa := hide (inR_small sa)
  have HIb := hide (inR_small sb)
  have HLa := hide (lim_small sa)
  have HLb := hide (lim_small sb)
  clear sa sb oa ob b1 HD hbig hcm hl
  simp only [OV.v]
  have B2 : Below w1.heap.size w1 ((w1.alloc (.cells #[.slice a.A a.ps.length a.c, .slice a.Y a.ys.length a.yc] 26)).alloc (.cells #[.slice b.A b.ps.length b.c, .slice b.Y b.ys.length b.yc] 26)) := (by repeat (first | exact Below.refl _ _ | with_reducible assumption | (refine Below.drew ?_) | (refine Below.drewN ?_ _) | (refine Below.alloc ?_ (by simp; try omega) _) | (refine Below.setCell ?_ (by simp; try omega) _)))
  have HX := hide ((Box.new w1 26 #[.slice a.A a.ps.length a.c, .slice a.Y a.ys.length a.yc]).alloc (.cells #[.slice b.A b.ps.length b.c, .slice b.Y b.ys.length b.yc] 26))
  have HY0 := Box.new (w1.alloc (.cells #[.slice a.A a.ps.length a.c, .slice a.Y a.ys.length a.yc] 26)) 26 #[.slice b.A b.ps.length b.c, .slice b.Y b.ys.length b.yc]
  rw [World.size_alloc] at HY0
  have HY := hide HY0
  clear HY0
  replace HB := hide (HB.out.trans (B2.mono HB.out.size))
  replace HA := hide (HA.out.call B2)
  replace HBB := hide (HBB.out.call B2)
  clear B2
  have x0 := HX.out.cell 0
  have x1 := HX.out.cell 1
  simp only [List.getElem?_toArray, List.getElem?_cons_zero, List.getElem?_cons_succ] at x0 x1
  have y0 := HY.out.cell 0
  have y1 := HY.out.cell 1
  simp only [List.getElem?_toArray, List.getElem?_cons_zero, List.getElem?_cons_succ] at y0 y1
  have hxl := HX.out.lt
  have hyl := HY.out.lt
  go_wp2_with fail
  clear x0 x1 y0 y1 hxl hyl
  generalize hY : w1.heap.size + 1 = Y at *
  clear hY
  generalize (w1.alloc (.cells #[.slice a.A a.ps.length a.c, .slice a.Y a.ys.length a.yc] 26)).alloc (.cells #[.slice b.A b.ps.length b.c, .slice b.Y b.ys.length b.yc] 26) = w2 at *
  generalize w1.heap.size = X at *
  refine (sameObject_any a b w2 HA.out.rd HBB.out.rd HFa.out HFb.out HNa.out HNb.out HIa.out HIb.out).mono ?_
  rintro e w3 ⟨rfl, b3⟩
  replace HB := hide (HB.out.trans (b3.mono HB.out.size))
  replace HX := hide (HX.out.call b3)
  replace HY := hide (HY.out.call b3)
  replace HA := hide (HA.out.call b3)
  replace HBB := hide (HBB.out.call b3)
  clear b3
  have x0 := HX.out.cell 0
  have x1 := HX.out.cell 1
  simp only [List.getElem?_toArray, List.getElem?_cons_zero, List.getElem?_cons_succ] at x0 x1
  have y0 := HY.out.cell 0
  have y1 := HY.out.cell 1
  simp only [List.getElem?_toArray, List.getElem?_cons_zero, List.getElem?_cons_succ] at y0 y1
  have HCO := hide (same_comm b.d a.d)
  have HSAA := hide (same_self a.d)
  have HINJ := hide (fun h h' => same_inj (x := a.d) (y := b.d) h h')
  have HRV := hide (show sameB a.d b.d = (objOk a.d && (objOk b.d && decide (CWriteB.writeB a.d = CWriteB.writeB b.d))) from rfl)
  generalize hr : sameB a.d b.d = r at *
  have HR := hide hr
  clear hr
  go_wp2_with fail
  clear x0 x1 y0 y1
  refine (CSameObjS.sameObjectS_any a b w3 HA.out.rd HBB.out.rd HFa.out HFb.out HNa.out HNb.out HIa.out HIb.out).mono ?_
  rintro e w4 ⟨rfl, b4⟩
  rw [HR.out]
  replace HB := hide (HB.out.trans (b4.mono HB.out.size))
  replace HX := hide (HX.out.call b4)
  replace HY := hide (HY.out.call b4)
  replace HA := hide (HA.out.call b4)
  replace HBB := hide (HBB.out.call b4)
  clear b4
  have x0 := HX.out.cell 0
  have x1 := HX.out.cell 1
  simp only [List.getElem?_toArray, List.getElem?_cons_zero, List.getElem?_cons_succ] at x0 x1
  have y0 := HY.out.cell 0
  have y1 := HY.out.cell 1
  simp only [List.getElem?_toArray, List.getElem?_cons_zero, List.getElem?_cons_succ] at y0 y1
  have hrr : (r != r) = false := by cases r <;> rfl
  go_wp2_with fail
  clear x0 x1 y0 y1
  refine (sameObject_any b a w4 HBB.out.rd HA.out.rd HFb.out HFa.out HNb.out HNa.out HIb.out HIa.out).mono ?_
  rintro e w5 ⟨rfl, b5⟩
  rw [HCO.out]
  replace HB := hide (HB.out.trans (b5.mono HB.out.size))
  replace HX := hide (HX.out.call b5)
  replace HY := hide (HY.out.call b5)
  replace HA := hide (HA.out.call b5)
  replace HBB := hide (HBB.out.call b5)
  clear b5
  go_wp2_with fail
  clear hrr
  cases hoa : objOk a.d
  · have HOA := hide hoa
    rw [hoa] at HSAA HRV
    have hr0 : r = false := HRV.out
    subst hr0
    clear hoa HRV HINJ
    have x0 := HX.out.cell 0
    have x1 := HX.out.cell 1
    simp only [List.getElem?_toArray, List.getElem?_cons_zero, List.getElem?_cons_succ] at x0 x1
    have y0 := HY.out.cell 0
    have y1 := HY.out.cell 1
    simp only [List.getElem?_toArray, List.getElem?_cons_zero, List.getElem?_cons_succ] at y0 y1
    have bd : Below w5.heap.size w5 w5.drew := below_dr (Below.refl _ _)
    have hHeld := four bd HX.out.lt HY.out.lt ⟨x0, x1, y0, y1⟩
    clear x0 x1 y0 y1
    refine Reg.startT (fun W => W.cell? ⟨X, 0, none⟩ = some (.slice a.A a.ps.length a.c) ∧ W.cell? ⟨X, 1, none⟩ = some (.slice a.Y a.ys.length a.yc) ∧ W.cell? ⟨Y, 0, none⟩ = some (.slice b.A b.ps.length b.c) ∧ W.cell? ⟨Y, 1, none⟩ = some (.slice b.Y b.ys.length b.yc)) (fun _ => false) (by kernel_rfl) ?_
    replace HB := hide (HB.out.trans (bd.mono HB.out.size))
    replace HX := hide (HX.out.call bd)
    replace HY := hide (HY.out.call bd)
    replace HA := hide (HA.out.call bd)
    replace HBB := hide (HBB.out.call bd)
    clear bd
    generalize w5.drew = w6 at *
    refine Reg.takeT (i := 0) (v := ?_) rfl (by kernel_rfl) (by kernel_rfl) (by kernel_rfl) (by kernel_rfl) (fun _ _ _ h => h) (Or.inl ⟨by rfl, ?_⟩) (by assumption) ?_
    rotate_left 1
    focus (intro w hSw; (try dsimp only at hSw); go_simp; (try with_reducible rfl))
    try simp only [List.getElem_toArray, List.getElem_cons_succ, List.getElem_cons_zero, Act.put, List.setIfInBounds_toArray, List.set_cons_zero, List.set_cons_succ]
    refine Reg.takeT (i := 1) (v := ?_) rfl (by kernel_rfl) (by kernel_rfl) (by kernel_rfl) (by kernel_rfl) (fun _ _ _ h => h) (Or.inl ⟨by rfl, ?_⟩) (by assumption) ?_
    rotate_left 1
    focus (intro w hSw; (try dsimp only at hSw); go_simp; (try with_reducible rfl))
    try simp only [List.getElem_toArray, List.getElem_cons_succ, List.getElem_cons_zero, Act.put, List.setIfInBounds_toArray, List.set_cons_zero, List.set_cons_succ]
    refine Reg.takeT (i := 3) (v := ?_) rfl (by kernel_rfl) (by kernel_rfl) (by kernel_rfl) (by kernel_rfl) (fun _ _ _ h => h) (Or.inl ⟨by rfl, ?_⟩) (by assumption) ?_
    rotate_left 1
    focus (intro w hSw; (try dsimp only at hSw); go_simp; (try with_reducible rfl))
    try simp only [List.getElem_toArray, List.getElem_cons_succ, List.getElem_cons_zero, Act.put, List.setIfInBounds_toArray, List.set_cons_zero, List.set_cons_succ]
    refine Reg.oneT (i := 2) rfl (by kernel_rfl) (fun K hK => ?_)
    go_simp
    refine (sameObject_any a a w6 HA.out.rd HA.out.rd HFa.out HFa.out HNa.out HNa.out HIa.out HIa.out).mono ?_
    rintro e w7 ⟨rfl, b7⟩
    rw [HSAA.out]
    replace hHeld := four b7 HX.out.lt HY.out.lt hHeld
    replace HB := hide (HB.out.trans (b7.mono HB.out.size))
    replace HX := hide (HX.out.call b7)
    replace HY := hide (HY.out.call b7)
    replace HA := hide (HA.out.call b7)
    replace HBB := hide (HBB.out.call b7)
    clear b7
    refine hK.out _ _ hHeld ?_
    clear hK K
    try simp only [List.getElem_toArray, List.getElem_cons_succ, List.getElem_cons_zero, Act.put, List.setIfInBounds_toArray, List.set_cons_zero, List.set_cons_succ]
    refine Reg.oneT (i := 4) rfl (by kernel_rfl) (fun K hK => ?_)
    go_simp
    refine (objectValid_any a w7 HA.out.rd HFa.out).mono ?_
    rintro e w8 ⟨rfl, b8⟩
    rw [HOA.out]
    replace hHeld := four b8 HX.out.lt HY.out.lt hHeld
    replace HB := hide (HB.out.trans (b8.mono HB.out.size))
    replace HX := hide (HX.out.call b8)
    replace HY := hide (HY.out.call b8)
    replace HA := hide (HA.out.call b8)
    replace HBB := hide (HBB.out.call b8)
    clear b8
    refine hK.out _ _ hHeld ?_
    clear hK K
    try simp only [List.getElem_toArray, List.getElem_cons_succ, List.getElem_cons_zero, Act.put, List.setIfInBounds_toArray, List.set_cons_zero, List.set_cons_succ]
    refine Reg.takeT (i := 5) (v := ?_) rfl (by kernel_rfl) (by kernel_rfl) (by kernel_rfl) (by kernel_rfl) (fun _ _ _ h => h) (Or.inl ⟨by rfl, ?_⟩) (by assumption) ?_
    rotate_left 1
    focus (intro w hSw; (try dsimp only at hSw); go_simp; (try with_reducible rfl))
    try simp only [List.getElem_toArray, List.getElem_cons_succ, List.getElem_cons_zero, Act.put, List.setIfInBounds_toArray, List.set_cons_zero, List.set_cons_succ]
    refine Reg.takeT (i := 6) (v := ?_) rfl (by kernel_rfl) (by kernel_rfl) (by kernel_rfl) (by kernel_rfl) (fun _ _ _ h => h) (Or.inl ⟨by rfl, ?_⟩) (by assumption) ?_
    rotate_left 1
    focus (intro w hSw; (try dsimp only at hSw); go_simp; (try with_reducible rfl))
    try simp only [List.getElem_toArray, List.getElem_cons_succ, List.getElem_cons_zero, Act.put, List.setIfInBounds_toArray, List.set_cons_zero, List.set_cons_succ]
    refine Reg.takeT (i := 7) (v := ?_) rfl (by kernel_rfl) (by kernel_rfl) (by kernel_rfl) (by kernel_rfl) (fun _ _ _ h => h) (Or.inl ⟨by rfl, ?_⟩) (by assumption) ?_
    rotate_left 1
    focus (intro w hSw; (try dsimp only at hSw); go_simp; (try with_reducible rfl))
    try simp only [List.getElem_toArray, List.getElem_cons_succ, List.getElem_cons_zero, Act.put, List.setIfInBounds_toArray, List.set_cons_zero, List.set_cons_succ]
    refine Reg.takeT (i := 8) (v := ?_) rfl (by kernel_rfl) (by kernel_rfl) (by kernel_rfl) (by kernel_rfl) (fun _ _ _ h => h) (Or.inl ⟨by rfl, ?_⟩) (by assumption) ?_
    rotate_left 1
    focus (intro w hSw; (try dsimp only at hSw); go_simp; (try with_reducible rfl))
    try simp only [List.getElem_toArray, List.getElem_cons_succ, List.getElem_cons_zero, Act.put, List.setIfInBounds_toArray, List.set_cons_zero, List.set_cons_succ]
    refine Reg.oneT (i := 9) rfl (by kernel_rfl) (fun K hK => ?_)
    go_simp
    refine (objectValid_any a w8 HA.out.rd HFa.out).mono ?_
    rintro e w9 ⟨rfl, b9⟩
    rw [HOA.out]
    replace hHeld := four b9 HX.out.lt HY.out.lt hHeld
    replace HB := hide (HB.out.trans (b9.mono HB.out.size))
    replace HX := hide (HX.out.call b9)
    replace HY := hide (HY.out.call b9)
    replace HA := hide (HA.out.call b9)
    replace HBB := hide (HBB.out.call b9)
    clear b9
    refine hK.out _ _ hHeld ?_
    clear hK K
    try simp only [List.getElem_toArray, List.getElem_cons_succ, List.getElem_cons_zero, Act.put, List.setIfInBounds_toArray, List.set_cons_zero, List.set_cons_succ]
    refine Reg.takeT (i := 10) (v := ?_) rfl (by kernel_rfl) (by kernel_rfl) (by kernel_rfl) (by kernel_rfl) (fun _ _ _ h => h) (Or.inl ⟨by rfl, ?_⟩) (by assumption) ?_
    rotate_left 1
    focus (intro w hSw; (try dsimp only at hSw); go_simp; (try with_reducible rfl))
    try simp only [List.getElem_toArray, List.getElem_cons_succ, List.getElem_cons_zero, Act.put, List.setIfInBounds_toArray, List.set_cons_zero, List.set_cons_succ]
    refine Reg.takeT (i := 11) (v := undef) rfl (by kernel_rfl) (by kernel_rfl) (by kernel_rfl) (by kernel_rfl) (fun _ _ _ h => h) (Or.inr ⟨by rfl, rfl⟩) (by assumption) ?_
    try simp only [List.getElem_toArray, List.getElem_cons_succ, List.getElem_cons_zero, Act.put, List.setIfInBounds_toArray, List.set_cons_zero, List.set_cons_succ]
    refine Reg.takeT (i := 12) (v := undef) rfl (by kernel_rfl) (by kernel_rfl) (by kernel_rfl) (by kernel_rfl) (fun _ _ _ h => h) (Or.inr ⟨by rfl, rfl⟩) (by assumption) ?_
    try simp only [List.getElem_toArray, List.getElem_cons_succ, List.getElem_cons_zero, Act.put, List.setIfInBounds_toArray, List.set_cons_zero, List.set_cons_succ]
    refine Reg.takeT (i := 13) (v := ?_) rfl (by kernel_rfl) (by kernel_rfl) (by kernel_rfl) (by kernel_rfl) (fun _ _ _ h => h) (Or.inl ⟨by rfl, ?_⟩) (by assumption) ?_
    rotate_left 1
    focus (intro w hSw; (try dsimp only at hSw); go_simp; (try with_reducible rfl))
    try simp only [List.getElem_toArray, List.getElem_cons_succ, List.getElem_cons_zero, Act.put, List.setIfInBounds_toArray, List.set_cons_zero, List.set_cons_succ]
    refine Reg.takeT (i := 14) (v := ?_) rfl (by kernel_rfl) (by kernel_rfl) (by kernel_rfl) (by kernel_rfl) (fun _ _ _ h => h) (Or.inl ⟨by rfl, ?_⟩) (by assumption) ?_
    rotate_left 1
    focus (intro w hSw; (try dsimp only at hSw); go_simp; (try with_reducible rfl))
    try simp only [List.getElem_toArray, List.getElem_cons_succ, List.getElem_cons_zero, Act.put, List.setIfInBounds_toArray, List.set_cons_zero, List.set_cons_succ]
    refine Reg.takeT (i := 15) (v := undef) rfl (by kernel_rfl) (by kernel_rfl) (by kernel_rfl) (by kernel_rfl) (fun _ _ _ h => h) (Or.inr ⟨by rfl, rfl⟩) (by assumption) ?_
    try simp only [List.getElem_toArray, List.getElem_cons_succ, List.getElem_cons_zero, Act.put, List.setIfInBounds_toArray, List.set_cons_zero, List.set_cons_succ]
    refine Reg.takeT (i := 16) (v := undef) rfl (by kernel_rfl) (by kernel_rfl) (by kernel_rfl) (by kernel_rfl) (fun _ _ _ h => h) (Or.inr ⟨by rfl, rfl⟩) (by assumption) ?_
    try simp only [List.getElem_toArray, List.getElem_cons_succ, List.getElem_cons_zero, Act.put, List.setIfInBounds_toArray, List.set_cons_zero, List.set_cons_succ]
    refine Reg.takeT (i := 17) (v := undef) rfl (by kernel_rfl) (by kernel_rfl) (by kernel_rfl) (by kernel_rfl) (fun _ _ _ h => h) (Or.inr ⟨by rfl, rfl⟩) (by assumption) ?_
    try simp only [List.getElem_toArray, List.getElem_cons_succ, List.getElem_cons_zero, Act.put, List.setIfInBounds_toArray, List.set_cons_zero, List.set_cons_succ]
    refine Reg.takeT (i := 18) (v := ?_) rfl (by kernel_rfl) (by kernel_rfl) (by kernel_rfl) (by kernel_rfl) (fun _ _ _ h => h) (Or.inl ⟨by rfl, ?_⟩) (by assumption) ?_
    rotate_left 1
    focus (intro w hSw; (try dsimp only at hSw); go_simp; (try with_reducible rfl))
    try simp only [List.getElem_toArray, List.getElem_cons_succ, List.getElem_cons_zero, Act.put, List.setIfInBounds_toArray, List.set_cons_zero, List.set_cons_succ]
    refine Reg.takeT (i := 19) (v := ?_) rfl (by kernel_rfl) (by kernel_rfl) (by kernel_rfl) (by kernel_rfl) (fun _ _ _ h => h) (Or.inl ⟨by rfl, ?_⟩) (by assumption) ?_
    rotate_left 1
    focus (intro w hSw; (try dsimp only at hSw); go_simp; (try with_reducible rfl))
    try simp only [List.getElem_toArray, List.getElem_cons_succ, List.getElem_cons_zero, Act.put, List.setIfInBounds_toArray, List.set_cons_zero, List.set_cons_succ]
    refine Reg.takeT (i := 20) (v := ?_) rfl (by kernel_rfl) (by kernel_rfl) (by kernel_rfl) (by kernel_rfl) (fun _ _ _ h => h) (Or.inl ⟨by rfl, ?_⟩) (by assumption) ?_
    rotate_left 1
    focus (intro w hSw; (try dsimp only at hSw); go_simp; (try with_reducible rfl))
    try simp only [List.getElem_toArray, List.getElem_cons_succ, List.getElem_cons_zero, Act.put, List.setIfInBounds_toArray, List.set_cons_zero, List.set_cons_succ]
    refine Reg.takeT (i := 21) (v := ?_) rfl (by kernel_rfl) (by kernel_rfl) (by kernel_rfl) (by kernel_rfl) (fun _ _ _ h => h) (Or.inl ⟨by rfl, ?_⟩) (by assumption) ?_
    rotate_left 1
    focus (intro w hSw; (try dsimp only at hSw); go_simp; (try with_reducible rfl))
    try simp only [List.getElem_toArray, List.getElem_cons_succ, List.getElem_cons_zero, Act.put, List.setIfInBounds_toArray, List.set_cons_zero, List.set_cons_succ]
    refine Reg.oneT (i := 22) rfl (by kernel_rfl) (fun K hK => ?_)
    go_simp
    refine (CAlive.alive_any w9).mono ?_
    rintro e w' ⟨rfl, rfl⟩
    refine hK.out _ _ hHeld ?_
    clear hK K
    try simp only [List.getElem_toArray, List.getElem_cons_succ, List.getElem_cons_zero, Act.put, List.setIfInBounds_toArray, List.set_cons_zero, List.set_cons_succ]
    refine Reg.takeT (i := 23) (v := ?_) rfl (by kernel_rfl) (by kernel_rfl) (by kernel_rfl) (by kernel_rfl) (fun _ _ _ h => h) (Or.inl ⟨by rfl, ?_⟩) (by assumption) ?_
    rotate_left 1
    focus (intro w hSw; (try dsimp only at hSw); go_simp; (try with_reducible rfl))
    try simp only [List.getElem_toArray, List.getElem_cons_succ, List.getElem_cons_zero, Act.put, List.setIfInBounds_toArray, List.set_cons_zero, List.set_cons_succ]
    refine Reg.takeT (i := 24) (v := ?_) rfl (by kernel_rfl) (by kernel_rfl) (by kernel_rfl) (by kernel_rfl) (fun _ _ _ h => h) (Or.inl ⟨by rfl, ?_⟩) (by assumption) ?_
    rotate_left 1
    focus (intro w hSw; (try dsimp only at hSw); go_simp; (try with_reducible rfl))
    try simp only [List.getElem_toArray, List.getElem_cons_succ, List.getElem_cons_zero, Act.put, List.setIfInBounds_toArray, List.set_cons_zero, List.set_cons_succ]
    clear hHeld
    refine Reg.doneT (by kernel_rfl) ?_ _
    go_wp2_with fail
    go_ret
    exact ⟨rfl, HB.out⟩
  cases hob : objOk b.d
  · have HOA := hide hoa
    have HOB := hide hob
    rw [hoa] at HSAA HRV
    rw [hob] at HRV
    have hr0 : r = false := HRV.out
    subst hr0
    clear hoa hob HRV HINJ
    have x0 := HX.out.cell 0
    have x1 := HX.out.cell 1
    simp only [List.getElem?_toArray, List.getElem?_cons_zero, List.getElem?_cons_succ] at x0 x1
    have y0 := HY.out.cell 0
    have y1 := HY.out.cell 1
    simp only [List.getElem?_toArray, List.getElem?_cons_zero, List.getElem?_cons_succ] at y0 y1
    have bd : Below w5.heap.size w5 w5.drew := below_dr (Below.refl _ _)
    have hHeld := four bd HX.out.lt HY.out.lt ⟨x0, x1, y0, y1⟩
    clear x0 x1 y0 y1
    refine Reg.startT (fun W => W.cell? ⟨X, 0, none⟩ = some (.slice a.A a.ps.length a.c) ∧ W.cell? ⟨X, 1, none⟩ = some (.slice a.Y a.ys.length a.yc) ∧ W.cell? ⟨Y, 0, none⟩ = some (.slice b.A b.ps.length b.c) ∧ W.cell? ⟨Y, 1, none⟩ = some (.slice b.Y b.ys.length b.yc)) (fun _ => false) (by kernel_rfl) ?_
    replace HB := hide (HB.out.trans (bd.mono HB.out.size))
    replace HX := hide (HX.out.call bd)
    replace HY := hide (HY.out.call bd)
    replace HA := hide (HA.out.call bd)
    replace HBB := hide (HBB.out.call bd)
    clear bd
    generalize w5.drew = w6 at *
    refine Reg.takeT (i := 0) (v := ?_) rfl (by kernel_rfl) (by kernel_rfl) (by kernel_rfl) (by kernel_rfl) (fun _ _ _ h => h) (Or.inl ⟨by rfl, ?_⟩) (by assumption) ?_
    rotate_left 1
    focus (intro w hSw; (try dsimp only at hSw); go_simp; (try with_reducible rfl))
    try simp only [List.getElem_toArray, List.getElem_cons_succ, List.getElem_cons_zero, Act.put, List.setIfInBounds_toArray, List.set_cons_zero, List.set_cons_succ]
    refine Reg.takeT (i := 1) (v := ?_) rfl (by kernel_rfl) (by kernel_rfl) (by kernel_rfl) (by kernel_rfl) (fun _ _ _ h => h) (Or.inl ⟨by rfl, ?_⟩) (by assumption) ?_
    rotate_left 1
    focus (intro w hSw; (try dsimp only at hSw); go_simp; (try with_reducible rfl))
    try simp only [List.getElem_toArray, List.getElem_cons_succ, List.getElem_cons_zero, Act.put, List.setIfInBounds_toArray, List.set_cons_zero, List.set_cons_succ]
    refine Reg.takeT (i := 3) (v := ?_) rfl (by kernel_rfl) (by kernel_rfl) (by kernel_rfl) (by kernel_rfl) (fun _ _ _ h => h) (Or.inl ⟨by rfl, ?_⟩) (by assumption) ?_
    rotate_left 1
    focus (intro w hSw; (try dsimp only at hSw); go_simp; (try with_reducible rfl))
    try simp only [List.getElem_toArray, List.getElem_cons_succ, List.getElem_cons_zero, Act.put, List.setIfInBounds_toArray, List.set_cons_zero, List.set_cons_succ]
    refine Reg.oneT (i := 2) rfl (by kernel_rfl) (fun K hK => ?_)
    go_simp
    refine (sameObject_any a a w6 HA.out.rd HA.out.rd HFa.out HFa.out HNa.out HNa.out HIa.out HIa.out).mono ?_
    rintro e w7 ⟨rfl, b7⟩
    rw [HSAA.out]
    replace hHeld := four b7 HX.out.lt HY.out.lt hHeld
    replace HB := hide (HB.out.trans (b7.mono HB.out.size))
    replace HX := hide (HX.out.call b7)
    replace HY := hide (HY.out.call b7)
    replace HA := hide (HA.out.call b7)
    replace HBB := hide (HBB.out.call b7)
    clear b7
    refine hK.out _ _ hHeld ?_
    clear hK K
    try simp only [List.getElem_toArray, List.getElem_cons_succ, List.getElem_cons_zero, Act.put, List.setIfInBounds_toArray, List.set_cons_zero, List.set_cons_succ]
    refine Reg.oneT (i := 4) rfl (by kernel_rfl) (fun K hK => ?_)
    go_simp
    refine (objectValid_any a w7 HA.out.rd HFa.out).mono ?_
    rintro e w8 ⟨rfl, b8⟩
    rw [HOA.out]
    replace hHeld := four b8 HX.out.lt HY.out.lt hHeld
    replace HB := hide (HB.out.trans (b8.mono HB.out.size))
    replace HX := hide (HX.out.call b8)
    replace HY := hide (HY.out.call b8)
    replace HA := hide (HA.out.call b8)
    replace HBB := hide (HBB.out.call b8)
    clear b8
    refine hK.out _ _ hHeld ?_
    clear hK K
    try simp only [List.getElem_toArray, List.getElem_cons_succ, List.getElem_cons_zero, Act.put, List.setIfInBounds_toArray, List.set_cons_zero, List.set_cons_succ]
    refine Reg.takeT (i := 5) (v := ?_) rfl (by kernel_rfl) (by kernel_rfl) (by kernel_rfl) (by kernel_rfl) (fun _ _ _ h => h) (Or.inl ⟨by rfl, ?_⟩) (by assumption) ?_
    rotate_left 1
    focus (intro w hSw; (try dsimp only at hSw); go_simp; (try with_reducible rfl))
    try simp only [List.getElem_toArray, List.getElem_cons_succ, List.getElem_cons_zero, Act.put, List.setIfInBounds_toArray, List.set_cons_zero, List.set_cons_succ]
    refine Reg.takeT (i := 6) (v := ?_) rfl (by kernel_rfl) (by kernel_rfl) (by kernel_rfl) (by kernel_rfl) (fun _ _ _ h => h) (Or.inl ⟨by rfl, ?_⟩) (by assumption) ?_
    rotate_left 1
    focus (intro w hSw; (try dsimp only at hSw); go_simp; (try with_reducible rfl))
    try simp only [List.getElem_toArray, List.getElem_cons_succ, List.getElem_cons_zero, Act.put, List.setIfInBounds_toArray, List.set_cons_zero, List.set_cons_succ]
    refine Reg.takeT (i := 7) (v := ?_) rfl (by kernel_rfl) (by kernel_rfl) (by kernel_rfl) (by kernel_rfl) (fun _ _ _ h => h) (Or.inl ⟨by rfl, ?_⟩) (by assumption) ?_
    rotate_left 1
    focus (intro w hSw; (try dsimp only at hSw); go_simp; (try with_reducible rfl))
    try simp only [List.getElem_toArray, List.getElem_cons_succ, List.getElem_cons_zero, Act.put, List.setIfInBounds_toArray, List.set_cons_zero, List.set_cons_succ]
    refine Reg.takeT (i := 8) (v := ?_) rfl (by kernel_rfl) (by kernel_rfl) (by kernel_rfl) (by kernel_rfl) (fun _ _ _ h => h) (Or.inl ⟨by rfl, ?_⟩) (by assumption) ?_
    rotate_left 1
    focus (intro w hSw; (try dsimp only at hSw); go_simp; (try with_reducible rfl))
    try simp only [List.getElem_toArray, List.getElem_cons_succ, List.getElem_cons_zero, Act.put, List.setIfInBounds_toArray, List.set_cons_zero, List.set_cons_succ]
    refine Reg.oneT (i := 9) rfl (by kernel_rfl) (fun K hK => ?_)
    go_simp
    refine (objectValid_any a w8 HA.out.rd HFa.out).mono ?_
    rintro e w9 ⟨rfl, b9⟩
    rw [HOA.out]
    replace hHeld := four b9 HX.out.lt HY.out.lt hHeld
    replace HB := hide (HB.out.trans (b9.mono HB.out.size))
    replace HX := hide (HX.out.call b9)
    replace HY := hide (HY.out.call b9)
    replace HA := hide (HA.out.call b9)
    replace HBB := hide (HBB.out.call b9)
    clear b9
    refine hK.out _ _ hHeld ?_
    clear hK K
    try simp only [List.getElem_toArray, List.getElem_cons_succ, List.getElem_cons_zero, Act.put, List.setIfInBounds_toArray, List.set_cons_zero, List.set_cons_succ]
    refine Reg.takeT (i := 10) (v := ?_) rfl (by kernel_rfl) (by kernel_rfl) (by kernel_rfl) (by kernel_rfl) (fun _ _ _ h => h) (Or.inl ⟨by rfl, ?_⟩) (by assumption) ?_
    rotate_left 1
    focus (intro w hSw; (try dsimp only at hSw); go_simp; (try with_reducible rfl))
    try simp only [List.getElem_toArray, List.getElem_cons_succ, List.getElem_cons_zero, Act.put, List.setIfInBounds_toArray, List.set_cons_zero, List.set_cons_succ]
    refine Reg.takeT (i := 11) (v := ?_) rfl (by kernel_rfl) (by kernel_rfl) (by kernel_rfl) (by kernel_rfl) (fun _ _ _ h => h) (Or.inl ⟨by rfl, ?_⟩) (by assumption) ?_
    rotate_left 1
    focus (intro w hSw; (try dsimp only at hSw); go_simp; (try with_reducible rfl))
    try simp only [List.getElem_toArray, List.getElem_cons_succ, List.getElem_cons_zero, Act.put, List.setIfInBounds_toArray, List.set_cons_zero, List.set_cons_succ]
    refine Reg.oneT (i := 12) rfl (by kernel_rfl) (fun K hK => ?_)
    go_simp
    refine (objectValid_any b w9 HBB.out.rd HFb.out).mono ?_
    rintro e w10 ⟨rfl, b10⟩
    rw [HOB.out]
    replace hHeld := four b10 HX.out.lt HY.out.lt hHeld
    replace HB := hide (HB.out.trans (b10.mono HB.out.size))
    replace HX := hide (HX.out.call b10)
    replace HY := hide (HY.out.call b10)
    replace HA := hide (HA.out.call b10)
    replace HBB := hide (HBB.out.call b10)
    clear b10
    refine hK.out _ _ hHeld ?_
    clear hK K
    try simp only [List.getElem_toArray, List.getElem_cons_succ, List.getElem_cons_zero, Act.put, List.setIfInBounds_toArray, List.set_cons_zero, List.set_cons_succ]
    refine Reg.takeT (i := 13) (v := ?_) rfl (by kernel_rfl) (by kernel_rfl) (by kernel_rfl) (by kernel_rfl) (fun _ _ _ h => h) (Or.inl ⟨by rfl, ?_⟩) (by assumption) ?_
    rotate_left 1
    focus (intro w hSw; (try dsimp only at hSw); go_simp; (try with_reducible rfl))
    try simp only [List.getElem_toArray, List.getElem_cons_succ, List.getElem_cons_zero, Act.put, List.setIfInBounds_toArray, List.set_cons_zero, List.set_cons_succ]
    refine Reg.takeT (i := 14) (v := ?_) rfl (by kernel_rfl) (by kernel_rfl) (by kernel_rfl) (by kernel_rfl) (fun _ _ _ h => h) (Or.inl ⟨by rfl, ?_⟩) (by assumption) ?_
    rotate_left 1
    focus (intro w hSw; (try dsimp only at hSw); go_simp; (try with_reducible rfl))
    try simp only [List.getElem_toArray, List.getElem_cons_succ, List.getElem_cons_zero, Act.put, List.setIfInBounds_toArray, List.set_cons_zero, List.set_cons_succ]
    refine Reg.takeT (i := 15) (v := undef) rfl (by kernel_rfl) (by kernel_rfl) (by kernel_rfl) (by kernel_rfl) (fun _ _ _ h => h) (Or.inr ⟨by rfl, rfl⟩) (by assumption) ?_
    try simp only [List.getElem_toArray, List.getElem_cons_succ, List.getElem_cons_zero, Act.put, List.setIfInBounds_toArray, List.set_cons_zero, List.set_cons_succ]
    refine Reg.takeT (i := 16) (v := undef) rfl (by kernel_rfl) (by kernel_rfl) (by kernel_rfl) (by kernel_rfl) (fun _ _ _ h => h) (Or.inr ⟨by rfl, rfl⟩) (by assumption) ?_
    try simp only [List.getElem_toArray, List.getElem_cons_succ, List.getElem_cons_zero, Act.put, List.setIfInBounds_toArray, List.set_cons_zero, List.set_cons_succ]
    refine Reg.takeT (i := 17) (v := undef) rfl (by kernel_rfl) (by kernel_rfl) (by kernel_rfl) (by kernel_rfl) (fun _ _ _ h => h) (Or.inr ⟨by rfl, rfl⟩) (by assumption) ?_
    try simp only [List.getElem_toArray, List.getElem_cons_succ, List.getElem_cons_zero, Act.put, List.setIfInBounds_toArray, List.set_cons_zero, List.set_cons_succ]
    refine Reg.takeT (i := 18) (v := ?_) rfl (by kernel_rfl) (by kernel_rfl) (by kernel_rfl) (by kernel_rfl) (fun _ _ _ h => h) (Or.inl ⟨by rfl, ?_⟩) (by assumption) ?_
    rotate_left 1
    focus (intro w hSw; (try dsimp only at hSw); go_simp; (try with_reducible rfl))
    try simp only [List.getElem_toArray, List.getElem_cons_succ, List.getElem_cons_zero, Act.put, List.setIfInBounds_toArray, List.set_cons_zero, List.set_cons_succ]
    refine Reg.takeT (i := 19) (v := ?_) rfl (by kernel_rfl) (by kernel_rfl) (by kernel_rfl) (by kernel_rfl) (fun _ _ _ h => h) (Or.inl ⟨by rfl, ?_⟩) (by assumption) ?_
    rotate_left 1
    focus (intro w hSw; (try dsimp only at hSw); go_simp; (try with_reducible rfl))
    try simp only [List.getElem_toArray, List.getElem_cons_succ, List.getElem_cons_zero, Act.put, List.setIfInBounds_toArray, List.set_cons_zero, List.set_cons_succ]
    refine Reg.takeT (i := 20) (v := ?_) rfl (by kernel_rfl) (by kernel_rfl) (by kernel_rfl) (by kernel_rfl) (fun _ _ _ h => h) (Or.inl ⟨by rfl, ?_⟩) (by assumption) ?_
    rotate_left 1
    focus (intro w hSw; (try dsimp only at hSw); go_simp; (try with_reducible rfl))
    try simp only [List.getElem_toArray, List.getElem_cons_succ, List.getElem_cons_zero, Act.put, List.setIfInBounds_toArray, List.set_cons_zero, List.set_cons_succ]
    refine Reg.takeT (i := 21) (v := ?_) rfl (by kernel_rfl) (by kernel_rfl) (by kernel_rfl) (by kernel_rfl) (fun _ _ _ h => h) (Or.inl ⟨by rfl, ?_⟩) (by assumption) ?_
    rotate_left 1
    focus (intro w hSw; (try dsimp only at hSw); go_simp; (try with_reducible rfl))
    try simp only [List.getElem_toArray, List.getElem_cons_succ, List.getElem_cons_zero, Act.put, List.setIfInBounds_toArray, List.set_cons_zero, List.set_cons_succ]
    refine Reg.oneT (i := 22) rfl (by kernel_rfl) (fun K hK => ?_)
    go_simp
    refine (CAlive.alive_any w10).mono ?_
    rintro e w' ⟨rfl, rfl⟩
    refine hK.out _ _ hHeld ?_
    clear hK K
    try simp only [List.getElem_toArray, List.getElem_cons_succ, List.getElem_cons_zero, Act.put, List.setIfInBounds_toArray, List.set_cons_zero, List.set_cons_succ]
    refine Reg.takeT (i := 23) (v := ?_) rfl (by kernel_rfl) (by kernel_rfl) (by kernel_rfl) (by kernel_rfl) (fun _ _ _ h => h) (Or.inl ⟨by rfl, ?_⟩) (by assumption) ?_
    rotate_left 1
    focus (intro w hSw; (try dsimp only at hSw); go_simp; (try with_reducible rfl))
    try simp only [List.getElem_toArray, List.getElem_cons_succ, List.getElem_cons_zero, Act.put, List.setIfInBounds_toArray, List.set_cons_zero, List.set_cons_succ]
    refine Reg.takeT (i := 24) (v := ?_) rfl (by kernel_rfl) (by kernel_rfl) (by kernel_rfl) (by kernel_rfl) (fun _ _ _ h => h) (Or.inl ⟨by rfl, ?_⟩) (by assumption) ?_
    rotate_left 1
    focus (intro w hSw; (try dsimp only at hSw); go_simp; (try with_reducible rfl))
    try simp only [List.getElem_toArray, List.getElem_cons_succ, List.getElem_cons_zero, Act.put, List.setIfInBounds_toArray, List.set_cons_zero, List.set_cons_succ]
    clear hHeld
    refine Reg.doneT (by kernel_rfl) ?_ _
    go_wp2_with fail
    go_ret
    exact ⟨rfl, HB.out⟩
  · have HOA := hide hoa
    have HOB := hide hob
    have HEQ := hide (HINJ.out hoa hob)
    rw [hoa] at HSAA
    clear hoa hob HRV HINJ
    cases r
    · skip
      have x0 := HX.out.cell 0
      have x1 := HX.out.cell 1
      simp only [List.getElem?_toArray, List.getElem?_cons_zero, List.getElem?_cons_succ] at x0 x1
      have y0 := HY.out.cell 0
      have y1 := HY.out.cell 1
      simp only [List.getElem?_toArray, List.getElem?_cons_zero, List.getElem?_cons_succ] at y0 y1
      have bd : Below w5.heap.size w5 w5.drew := below_dr (Below.refl _ _)
      have hHeld := four bd HX.out.lt HY.out.lt ⟨x0, x1, y0, y1⟩
      clear x0 x1 y0 y1
      refine Reg.startT (fun W => W.cell? ⟨X, 0, none⟩ = some (.slice a.A a.ps.length a.c) ∧ W.cell? ⟨X, 1, none⟩ = some (.slice a.Y a.ys.length a.yc) ∧ W.cell? ⟨Y, 0, none⟩ = some (.slice b.A b.ps.length b.c) ∧ W.cell? ⟨Y, 1, none⟩ = some (.slice b.Y b.ys.length b.yc)) (fun _ => false) (by kernel_rfl) ?_
      replace HB := hide (HB.out.trans (bd.mono HB.out.size))
      replace HX := hide (HX.out.call bd)
      replace HY := hide (HY.out.call bd)
      replace HA := hide (HA.out.call bd)
      replace HBB := hide (HBB.out.call bd)
      clear bd
      generalize w5.drew = w6 at *
      refine Reg.takeT (i := 0) (v := ?_) rfl (by kernel_rfl) (by kernel_rfl) (by kernel_rfl) (by kernel_rfl) (fun _ _ _ h => h) (Or.inl ⟨by rfl, ?_⟩) (by assumption) ?_
      rotate_left 1
      focus (intro w hSw; (try dsimp only at hSw); go_simp; (try with_reducible rfl))
      try simp only [List.getElem_toArray, List.getElem_cons_succ, List.getElem_cons_zero, Act.put, List.setIfInBounds_toArray, List.set_cons_zero, List.set_cons_succ]
      refine Reg.takeT (i := 1) (v := ?_) rfl (by kernel_rfl) (by kernel_rfl) (by kernel_rfl) (by kernel_rfl) (fun _ _ _ h => h) (Or.inl ⟨by rfl, ?_⟩) (by assumption) ?_
      rotate_left 1
      focus (intro w hSw; (try dsimp only at hSw); go_simp; (try with_reducible rfl))
      try simp only [List.getElem_toArray, List.getElem_cons_succ, List.getElem_cons_zero, Act.put, List.setIfInBounds_toArray, List.set_cons_zero, List.set_cons_succ]
      refine Reg.takeT (i := 3) (v := ?_) rfl (by kernel_rfl) (by kernel_rfl) (by kernel_rfl) (by kernel_rfl) (fun _ _ _ h => h) (Or.inl ⟨by rfl, ?_⟩) (by assumption) ?_
      rotate_left 1
      focus (intro w hSw; (try dsimp only at hSw); go_simp; (try with_reducible rfl))
      try simp only [List.getElem_toArray, List.getElem_cons_succ, List.getElem_cons_zero, Act.put, List.setIfInBounds_toArray, List.set_cons_zero, List.set_cons_succ]
      refine Reg.oneT (i := 2) rfl (by kernel_rfl) (fun K hK => ?_)
      go_simp
      refine (sameObject_any a a w6 HA.out.rd HA.out.rd HFa.out HFa.out HNa.out HNa.out HIa.out HIa.out).mono ?_
      rintro e w7 ⟨rfl, b7⟩
      rw [HSAA.out]
      replace hHeld := four b7 HX.out.lt HY.out.lt hHeld
      replace HB := hide (HB.out.trans (b7.mono HB.out.size))
      replace HX := hide (HX.out.call b7)
      replace HY := hide (HY.out.call b7)
      replace HA := hide (HA.out.call b7)
      replace HBB := hide (HBB.out.call b7)
      clear b7
      refine hK.out _ _ hHeld ?_
      clear hK K
      try simp only [List.getElem_toArray, List.getElem_cons_succ, List.getElem_cons_zero, Act.put, List.setIfInBounds_toArray, List.set_cons_zero, List.set_cons_succ]
      refine Reg.oneT (i := 4) rfl (by kernel_rfl) (fun K hK => ?_)
      go_simp
      refine (objectValid_any a w7 HA.out.rd HFa.out).mono ?_
      rintro e w8 ⟨rfl, b8⟩
      rw [HOA.out]
      replace hHeld := four b8 HX.out.lt HY.out.lt hHeld
      replace HB := hide (HB.out.trans (b8.mono HB.out.size))
      replace HX := hide (HX.out.call b8)
      replace HY := hide (HY.out.call b8)
      replace HA := hide (HA.out.call b8)
      replace HBB := hide (HBB.out.call b8)
      clear b8
      refine hK.out _ _ hHeld ?_
      clear hK K
      try simp only [List.getElem_toArray, List.getElem_cons_succ, List.getElem_cons_zero, Act.put, List.setIfInBounds_toArray, List.set_cons_zero, List.set_cons_succ]
      refine Reg.takeT (i := 5) (v := ?_) rfl (by kernel_rfl) (by kernel_rfl) (by kernel_rfl) (by kernel_rfl) (fun _ _ _ h => h) (Or.inl ⟨by rfl, ?_⟩) (by assumption) ?_
      rotate_left 1
      focus (intro w hSw; (try dsimp only at hSw); go_simp; (try with_reducible rfl))
      try simp only [List.getElem_toArray, List.getElem_cons_succ, List.getElem_cons_zero, Act.put, List.setIfInBounds_toArray, List.set_cons_zero, List.set_cons_succ]
      refine Reg.takeT (i := 6) (v := ?_) rfl (by kernel_rfl) (by kernel_rfl) (by kernel_rfl) (by kernel_rfl) (fun _ _ _ h => h) (Or.inl ⟨by rfl, ?_⟩) (by assumption) ?_
      rotate_left 1
      focus (intro w hSw; (try dsimp only at hSw); go_simp; (try with_reducible rfl))
      try simp only [List.getElem_toArray, List.getElem_cons_succ, List.getElem_cons_zero, Act.put, List.setIfInBounds_toArray, List.set_cons_zero, List.set_cons_succ]
      refine Reg.takeT (i := 7) (v := ?_) rfl (by kernel_rfl) (by kernel_rfl) (by kernel_rfl) (by kernel_rfl) (fun _ _ _ h => h) (Or.inl ⟨by rfl, ?_⟩) (by assumption) ?_
      rotate_left 1
      focus (intro w hSw; (try dsimp only at hSw); go_simp; (try with_reducible rfl))
      try simp only [List.getElem_toArray, List.getElem_cons_succ, List.getElem_cons_zero, Act.put, List.setIfInBounds_toArray, List.set_cons_zero, List.set_cons_succ]
      refine Reg.takeT (i := 8) (v := ?_) rfl (by kernel_rfl) (by kernel_rfl) (by kernel_rfl) (by kernel_rfl) (fun _ _ _ h => h) (Or.inl ⟨by rfl, ?_⟩) (by assumption) ?_
      rotate_left 1
      focus (intro w hSw; (try dsimp only at hSw); go_simp; (try with_reducible rfl))
      try simp only [List.getElem_toArray, List.getElem_cons_succ, List.getElem_cons_zero, Act.put, List.setIfInBounds_toArray, List.set_cons_zero, List.set_cons_succ]
      refine Reg.oneT (i := 9) rfl (by kernel_rfl) (fun K hK => ?_)
      go_simp
      refine (objectValid_any a w8 HA.out.rd HFa.out).mono ?_
      rintro e w9 ⟨rfl, b9⟩
      rw [HOA.out]
      replace hHeld := four b9 HX.out.lt HY.out.lt hHeld
      replace HB := hide (HB.out.trans (b9.mono HB.out.size))
      replace HX := hide (HX.out.call b9)
      replace HY := hide (HY.out.call b9)
      replace HA := hide (HA.out.call b9)
      replace HBB := hide (HBB.out.call b9)
      clear b9
      refine hK.out _ _ hHeld ?_
      clear hK K
      try simp only [List.getElem_toArray, List.getElem_cons_succ, List.getElem_cons_zero, Act.put, List.setIfInBounds_toArray, List.set_cons_zero, List.set_cons_succ]
      refine Reg.takeT (i := 10) (v := ?_) rfl (by kernel_rfl) (by kernel_rfl) (by kernel_rfl) (by kernel_rfl) (fun _ _ _ h => h) (Or.inl ⟨by rfl, ?_⟩) (by assumption) ?_
      rotate_left 1
      focus (intro w hSw; (try dsimp only at hSw); go_simp; (try with_reducible rfl))
      try simp only [List.getElem_toArray, List.getElem_cons_succ, List.getElem_cons_zero, Act.put, List.setIfInBounds_toArray, List.set_cons_zero, List.set_cons_succ]
      refine Reg.takeT (i := 11) (v := ?_) rfl (by kernel_rfl) (by kernel_rfl) (by kernel_rfl) (by kernel_rfl) (fun _ _ _ h => h) (Or.inl ⟨by rfl, ?_⟩) (by assumption) ?_
      rotate_left 1
      focus (intro w hSw; (try dsimp only at hSw); go_simp; (try with_reducible rfl))
      try simp only [List.getElem_toArray, List.getElem_cons_succ, List.getElem_cons_zero, Act.put, List.setIfInBounds_toArray, List.set_cons_zero, List.set_cons_succ]
      refine Reg.oneT (i := 12) rfl (by kernel_rfl) (fun K hK => ?_)
      go_simp
      refine (objectValid_any b w9 HBB.out.rd HFb.out).mono ?_
      rintro e w10 ⟨rfl, b10⟩
      rw [HOB.out]
      replace hHeld := four b10 HX.out.lt HY.out.lt hHeld
      replace HB := hide (HB.out.trans (b10.mono HB.out.size))
      replace HX := hide (HX.out.call b10)
      replace HY := hide (HY.out.call b10)
      replace HA := hide (HA.out.call b10)
      replace HBB := hide (HBB.out.call b10)
      clear b10
      refine hK.out _ _ hHeld ?_
      clear hK K
      try simp only [List.getElem_toArray, List.getElem_cons_succ, List.getElem_cons_zero, Act.put, List.setIfInBounds_toArray, List.set_cons_zero, List.set_cons_succ]
      refine Reg.takeT (i := 13) (v := ?_) rfl (by kernel_rfl) (by kernel_rfl) (by kernel_rfl) (by kernel_rfl) (fun _ _ _ h => h) (Or.inl ⟨by rfl, ?_⟩) (by assumption) ?_
      rotate_left 1
      focus (intro w hSw; (try dsimp only at hSw); go_simp; (try with_reducible rfl))
      try simp only [List.getElem_toArray, List.getElem_cons_succ, List.getElem_cons_zero, Act.put, List.setIfInBounds_toArray, List.set_cons_zero, List.set_cons_succ]
      refine Reg.takeT (i := 14) (v := ?_) rfl (by kernel_rfl) (by kernel_rfl) (by kernel_rfl) (by kernel_rfl) (fun _ _ _ h => h) (Or.inl ⟨by rfl, ?_⟩) (by assumption) ?_
      rotate_left 1
      focus (intro w hSw; (try dsimp only at hSw); go_simp; (try with_reducible rfl))
      try simp only [List.getElem_toArray, List.getElem_cons_succ, List.getElem_cons_zero, Act.put, List.setIfInBounds_toArray, List.set_cons_zero, List.set_cons_succ]
      refine Reg.takeT (i := 15) (v := ?_) rfl (by kernel_rfl) (by kernel_rfl) (by kernel_rfl) (by kernel_rfl) (fun _ _ _ h => h) (Or.inl ⟨by rfl, ?_⟩) (by assumption) ?_
      rotate_left 1
      focus (intro w hSw; (try dsimp only at hSw); go_simp; (try with_reducible rfl))
      try simp only [List.getElem_toArray, List.getElem_cons_succ, List.getElem_cons_zero, Act.put, List.setIfInBounds_toArray, List.set_cons_zero, List.set_cons_succ]
      refine Reg.takeT (i := 16) (v := ?_) rfl (by kernel_rfl) (by kernel_rfl) (by kernel_rfl) (by kernel_rfl) (fun _ _ _ h => h) (Or.inl ⟨by rfl, ?_⟩) (by assumption) ?_
      rotate_left 1
      focus (intro w hSw; (try dsimp only at hSw); go_simp; (try with_reducible rfl))
      try simp only [List.getElem_toArray, List.getElem_cons_succ, List.getElem_cons_zero, Act.put, List.setIfInBounds_toArray, List.set_cons_zero, List.set_cons_succ]
      refine Reg.oneT (i := 17) rfl (by kernel_rfl) (fun K hK => ?_)
      go_simp
      refine (CSameG.sameObjectG_any a b w10 HA.out.rd HBB.out.rd HLa.out HLb.out).mono ?_
      rintro e w11 ⟨rfl, b11⟩
      rw [HEQ.out]
      replace hHeld := four b11 HX.out.lt HY.out.lt hHeld
      replace HB := hide (HB.out.trans (b11.mono HB.out.size))
      replace HX := hide (HX.out.call b11)
      replace HY := hide (HY.out.call b11)
      replace HA := hide (HA.out.call b11)
      replace HBB := hide (HBB.out.call b11)
      clear b11
      refine hK.out _ _ hHeld ?_
      clear hK K
      try simp only [List.getElem_toArray, List.getElem_cons_succ, List.getElem_cons_zero, Act.put, List.setIfInBounds_toArray, List.set_cons_zero, List.set_cons_succ]
      refine Reg.takeT (i := 18) (v := ?_) rfl (by kernel_rfl) (by kernel_rfl) (by kernel_rfl) (by kernel_rfl) (fun _ _ _ h => h) (Or.inl ⟨by rfl, ?_⟩) (by assumption) ?_
      rotate_left 1
      focus (intro w hSw; (try dsimp only at hSw); go_simp; (try with_reducible rfl))
      try simp only [List.getElem_toArray, List.getElem_cons_succ, List.getElem_cons_zero, Act.put, List.setIfInBounds_toArray, List.set_cons_zero, List.set_cons_succ]
      refine Reg.takeT (i := 19) (v := ?_) rfl (by kernel_rfl) (by kernel_rfl) (by kernel_rfl) (by kernel_rfl) (fun _ _ _ h => h) (Or.inl ⟨by rfl, ?_⟩) (by assumption) ?_
      rotate_left 1
      focus (intro w hSw; (try dsimp only at hSw); go_simp; (try with_reducible rfl))
      try simp only [List.getElem_toArray, List.getElem_cons_succ, List.getElem_cons_zero, Act.put, List.setIfInBounds_toArray, List.set_cons_zero, List.set_cons_succ]
      refine Reg.takeT (i := 20) (v := ?_) rfl (by kernel_rfl) (by kernel_rfl) (by kernel_rfl) (by kernel_rfl) (fun _ _ _ h => h) (Or.inl ⟨by rfl, ?_⟩) (by assumption) ?_
      rotate_left 1
      focus (intro w hSw; (try dsimp only at hSw); go_simp; (try with_reducible rfl))
      try simp only [List.getElem_toArray, List.getElem_cons_succ, List.getElem_cons_zero, Act.put, List.setIfInBounds_toArray, List.set_cons_zero, List.set_cons_succ]
      refine Reg.takeT (i := 21) (v := ?_) rfl (by kernel_rfl) (by kernel_rfl) (by kernel_rfl) (by kernel_rfl) (fun _ _ _ h => h) (Or.inl ⟨by rfl, ?_⟩) (by assumption) ?_
      rotate_left 1
      focus (intro w hSw; (try dsimp only at hSw); go_simp; (try with_reducible rfl))
      try simp only [List.getElem_toArray, List.getElem_cons_succ, List.getElem_cons_zero, Act.put, List.setIfInBounds_toArray, List.set_cons_zero, List.set_cons_succ]
      refine Reg.oneT (i := 22) rfl (by kernel_rfl) (fun K hK => ?_)
      go_simp
      refine (CAlive.alive_any w11).mono ?_
      rintro e w' ⟨rfl, rfl⟩
      refine hK.out _ _ hHeld ?_
      clear hK K
      try simp only [List.getElem_toArray, List.getElem_cons_succ, List.getElem_cons_zero, Act.put, List.setIfInBounds_toArray, List.set_cons_zero, List.set_cons_succ]
      refine Reg.takeT (i := 23) (v := ?_) rfl (by kernel_rfl) (by kernel_rfl) (by kernel_rfl) (by kernel_rfl) (fun _ _ _ h => h) (Or.inl ⟨by rfl, ?_⟩) (by assumption) ?_
      rotate_left 1
      focus (intro w hSw; (try dsimp only at hSw); go_simp; (try with_reducible rfl))
      try simp only [List.getElem_toArray, List.getElem_cons_succ, List.getElem_cons_zero, Act.put, List.setIfInBounds_toArray, List.set_cons_zero, List.set_cons_succ]
      refine Reg.takeT (i := 24) (v := ?_) rfl (by kernel_rfl) (by kernel_rfl) (by kernel_rfl) (by kernel_rfl) (fun _ _ _ h => h) (Or.inl ⟨by rfl, ?_⟩) (by assumption) ?_
      rotate_left 1
      focus (intro w hSw; (try dsimp only at hSw); go_simp; (try with_reducible rfl))
      try simp only [List.getElem_toArray, List.getElem_cons_succ, List.getElem_cons_zero, Act.put, List.setIfInBounds_toArray, List.set_cons_zero, List.set_cons_succ]
      clear hHeld
      refine Reg.doneT (by kernel_rfl) ?_ _
      go_wp2_with fail
      go_ret
      exact ⟨rfl, HB.out⟩
    · skip
      have x0 := HX.out.cell 0
      have x1 := HX.out.cell 1
      simp only [List.getElem?_toArray, List.getElem?_cons_zero, List.getElem?_cons_succ] at x0 x1
      have y0 := HY.out.cell 0
      have y1 := HY.out.cell 1
      simp only [List.getElem?_toArray, List.getElem?_cons_zero, List.getElem?_cons_succ] at y0 y1
      have bd : Below w5.heap.size w5 w5.drew := below_dr (Below.refl _ _)
      have hHeld := four bd HX.out.lt HY.out.lt ⟨x0, x1, y0, y1⟩
      clear x0 x1 y0 y1
      refine Reg.startT (fun W => W.cell? ⟨X, 0, none⟩ = some (.slice a.A a.ps.length a.c) ∧ W.cell? ⟨X, 1, none⟩ = some (.slice a.Y a.ys.length a.yc) ∧ W.cell? ⟨Y, 0, none⟩ = some (.slice b.A b.ps.length b.c) ∧ W.cell? ⟨Y, 1, none⟩ = some (.slice b.Y b.ys.length b.yc)) (fun _ => false) (by kernel_rfl) ?_
      replace HB := hide (HB.out.trans (bd.mono HB.out.size))
      replace HX := hide (HX.out.call bd)
      replace HY := hide (HY.out.call bd)
      replace HA := hide (HA.out.call bd)
      replace HBB := hide (HBB.out.call bd)
      clear bd
      generalize w5.drew = w6 at *
      refine Reg.takeT (i := 0) (v := ?_) rfl (by kernel_rfl) (by kernel_rfl) (by kernel_rfl) (by kernel_rfl) (fun _ _ _ h => h) (Or.inl ⟨by rfl, ?_⟩) (by assumption) ?_
      rotate_left 1
      focus (intro w hSw; (try dsimp only at hSw); go_simp; (try with_reducible rfl))
      try simp only [List.getElem_toArray, List.getElem_cons_succ, List.getElem_cons_zero, Act.put, List.setIfInBounds_toArray, List.set_cons_zero, List.set_cons_succ]
      refine Reg.takeT (i := 1) (v := ?_) rfl (by kernel_rfl) (by kernel_rfl) (by kernel_rfl) (by kernel_rfl) (fun _ _ _ h => h) (Or.inl ⟨by rfl, ?_⟩) (by assumption) ?_
      rotate_left 1
      focus (intro w hSw; (try dsimp only at hSw); go_simp; (try with_reducible rfl))
      try simp only [List.getElem_toArray, List.getElem_cons_succ, List.getElem_cons_zero, Act.put, List.setIfInBounds_toArray, List.set_cons_zero, List.set_cons_succ]
      refine Reg.takeT (i := 3) (v := ?_) rfl (by kernel_rfl) (by kernel_rfl) (by kernel_rfl) (by kernel_rfl) (fun _ _ _ h => h) (Or.inl ⟨by rfl, ?_⟩) (by assumption) ?_
      rotate_left 1
      focus (intro w hSw; (try dsimp only at hSw); go_simp; (try with_reducible rfl))
      try simp only [List.getElem_toArray, List.getElem_cons_succ, List.getElem_cons_zero, Act.put, List.setIfInBounds_toArray, List.set_cons_zero, List.set_cons_succ]
      refine Reg.oneT (i := 2) rfl (by kernel_rfl) (fun K hK => ?_)
      go_simp
      refine (sameObject_any a a w6 HA.out.rd HA.out.rd HFa.out HFa.out HNa.out HNa.out HIa.out HIa.out).mono ?_
      rintro e w7 ⟨rfl, b7⟩
      rw [HSAA.out]
      replace hHeld := four b7 HX.out.lt HY.out.lt hHeld
      replace HB := hide (HB.out.trans (b7.mono HB.out.size))
      replace HX := hide (HX.out.call b7)
      replace HY := hide (HY.out.call b7)
      replace HA := hide (HA.out.call b7)
      replace HBB := hide (HBB.out.call b7)
      clear b7
      refine hK.out _ _ hHeld ?_
      clear hK K
      try simp only [List.getElem_toArray, List.getElem_cons_succ, List.getElem_cons_zero, Act.put, List.setIfInBounds_toArray, List.set_cons_zero, List.set_cons_succ]
      refine Reg.oneT (i := 4) rfl (by kernel_rfl) (fun K hK => ?_)
      go_simp
      refine (objectValid_any a w7 HA.out.rd HFa.out).mono ?_
      rintro e w8 ⟨rfl, b8⟩
      rw [HOA.out]
      replace hHeld := four b8 HX.out.lt HY.out.lt hHeld
      replace HB := hide (HB.out.trans (b8.mono HB.out.size))
      replace HX := hide (HX.out.call b8)
      replace HY := hide (HY.out.call b8)
      replace HA := hide (HA.out.call b8)
      replace HBB := hide (HBB.out.call b8)
      clear b8
      refine hK.out _ _ hHeld ?_
      clear hK K
      try simp only [List.getElem_toArray, List.getElem_cons_succ, List.getElem_cons_zero, Act.put, List.setIfInBounds_toArray, List.set_cons_zero, List.set_cons_succ]
      refine Reg.takeT (i := 5) (v := ?_) rfl (by kernel_rfl) (by kernel_rfl) (by kernel_rfl) (by kernel_rfl) (fun _ _ _ h => h) (Or.inl ⟨by rfl, ?_⟩) (by assumption) ?_
      rotate_left 1
      focus (intro w hSw; (try dsimp only at hSw); go_simp; (try with_reducible rfl))
      try simp only [List.getElem_toArray, List.getElem_cons_succ, List.getElem_cons_zero, Act.put, List.setIfInBounds_toArray, List.set_cons_zero, List.set_cons_succ]
      refine Reg.takeT (i := 6) (v := ?_) rfl (by kernel_rfl) (by kernel_rfl) (by kernel_rfl) (by kernel_rfl) (fun _ _ _ h => h) (Or.inl ⟨by rfl, ?_⟩) (by assumption) ?_
      rotate_left 1
      focus (intro w hSw; (try dsimp only at hSw); go_simp; (try with_reducible rfl))
      try simp only [List.getElem_toArray, List.getElem_cons_succ, List.getElem_cons_zero, Act.put, List.setIfInBounds_toArray, List.set_cons_zero, List.set_cons_succ]
      refine Reg.takeT (i := 7) (v := ?_) rfl (by kernel_rfl) (by kernel_rfl) (by kernel_rfl) (by kernel_rfl) (fun _ _ _ h => h) (Or.inl ⟨by rfl, ?_⟩) (by assumption) ?_
      rotate_left 1
      focus (intro w hSw; (try dsimp only at hSw); go_simp; (try with_reducible rfl))
      try simp only [List.getElem_toArray, List.getElem_cons_succ, List.getElem_cons_zero, Act.put, List.setIfInBounds_toArray, List.set_cons_zero, List.set_cons_succ]
      refine Reg.takeT (i := 8) (v := ?_) rfl (by kernel_rfl) (by kernel_rfl) (by kernel_rfl) (by kernel_rfl) (fun _ _ _ h => h) (Or.inl ⟨by rfl, ?_⟩) (by assumption) ?_
      rotate_left 1
      focus (intro w hSw; (try dsimp only at hSw); go_simp; (try with_reducible rfl))
      try simp only [List.getElem_toArray, List.getElem_cons_succ, List.getElem_cons_zero, Act.put, List.setIfInBounds_toArray, List.set_cons_zero, List.set_cons_succ]
      refine Reg.oneT (i := 9) rfl (by kernel_rfl) (fun K hK => ?_)
      go_simp
      refine (objectValid_any a w8 HA.out.rd HFa.out).mono ?_
      rintro e w9 ⟨rfl, b9⟩
      rw [HOA.out]
      replace hHeld := four b9 HX.out.lt HY.out.lt hHeld
      replace HB := hide (HB.out.trans (b9.mono HB.out.size))
      replace HX := hide (HX.out.call b9)
      replace HY := hide (HY.out.call b9)
      replace HA := hide (HA.out.call b9)
      replace HBB := hide (HBB.out.call b9)
      clear b9
      refine hK.out _ _ hHeld ?_
      clear hK K
      try simp only [List.getElem_toArray, List.getElem_cons_succ, List.getElem_cons_zero, Act.put, List.setIfInBounds_toArray, List.set_cons_zero, List.set_cons_succ]
      refine Reg.takeT (i := 10) (v := ?_) rfl (by kernel_rfl) (by kernel_rfl) (by kernel_rfl) (by kernel_rfl) (fun _ _ _ h => h) (Or.inl ⟨by rfl, ?_⟩) (by assumption) ?_
      rotate_left 1
      focus (intro w hSw; (try dsimp only at hSw); go_simp; (try with_reducible rfl))
      try simp only [List.getElem_toArray, List.getElem_cons_succ, List.getElem_cons_zero, Act.put, List.setIfInBounds_toArray, List.set_cons_zero, List.set_cons_succ]
      refine Reg.takeT (i := 11) (v := ?_) rfl (by kernel_rfl) (by kernel_rfl) (by kernel_rfl) (by kernel_rfl) (fun _ _ _ h => h) (Or.inl ⟨by rfl, ?_⟩) (by assumption) ?_
      rotate_left 1
      focus (intro w hSw; (try dsimp only at hSw); go_simp; (try with_reducible rfl))
      try simp only [List.getElem_toArray, List.getElem_cons_succ, List.getElem_cons_zero, Act.put, List.setIfInBounds_toArray, List.set_cons_zero, List.set_cons_succ]
      refine Reg.oneT (i := 12) rfl (by kernel_rfl) (fun K hK => ?_)
      go_simp
      refine (objectValid_any b w9 HBB.out.rd HFb.out).mono ?_
      rintro e w10 ⟨rfl, b10⟩
      rw [HOB.out]
      replace hHeld := four b10 HX.out.lt HY.out.lt hHeld
      replace HB := hide (HB.out.trans (b10.mono HB.out.size))
      replace HX := hide (HX.out.call b10)
      replace HY := hide (HY.out.call b10)
      replace HA := hide (HA.out.call b10)
      replace HBB := hide (HBB.out.call b10)
      clear b10
      refine hK.out _ _ hHeld ?_
      clear hK K
      try simp only [List.getElem_toArray, List.getElem_cons_succ, List.getElem_cons_zero, Act.put, List.setIfInBounds_toArray, List.set_cons_zero, List.set_cons_succ]
      refine Reg.takeT (i := 13) (v := ?_) rfl (by kernel_rfl) (by kernel_rfl) (by kernel_rfl) (by kernel_rfl) (fun _ _ _ h => h) (Or.inl ⟨by rfl, ?_⟩) (by assumption) ?_
      rotate_left 1
      focus (intro w hSw; (try dsimp only at hSw); go_simp; (try with_reducible rfl))
      try simp only [List.getElem_toArray, List.getElem_cons_succ, List.getElem_cons_zero, Act.put, List.setIfInBounds_toArray, List.set_cons_zero, List.set_cons_succ]
      refine Reg.takeT (i := 14) (v := ?_) rfl (by kernel_rfl) (by kernel_rfl) (by kernel_rfl) (by kernel_rfl) (fun _ _ _ h => h) (Or.inl ⟨by rfl, ?_⟩) (by assumption) ?_
      rotate_left 1
      focus (intro w hSw; (try dsimp only at hSw); go_simp; (try with_reducible rfl))
      try simp only [List.getElem_toArray, List.getElem_cons_succ, List.getElem_cons_zero, Act.put, List.setIfInBounds_toArray, List.set_cons_zero, List.set_cons_succ]
      refine Reg.takeT (i := 15) (v := ?_) rfl (by kernel_rfl) (by kernel_rfl) (by kernel_rfl) (by kernel_rfl) (fun _ _ _ h => h) (Or.inl ⟨by rfl, ?_⟩) (by assumption) ?_
      rotate_left 1
      focus (intro w hSw; (try dsimp only at hSw); go_simp; (try with_reducible rfl))
      try simp only [List.getElem_toArray, List.getElem_cons_succ, List.getElem_cons_zero, Act.put, List.setIfInBounds_toArray, List.set_cons_zero, List.set_cons_succ]
      refine Reg.takeT (i := 16) (v := ?_) rfl (by kernel_rfl) (by kernel_rfl) (by kernel_rfl) (by kernel_rfl) (fun _ _ _ h => h) (Or.inl ⟨by rfl, ?_⟩) (by assumption) ?_
      rotate_left 1
      focus (intro w hSw; (try dsimp only at hSw); go_simp; (try with_reducible rfl))
      try simp only [List.getElem_toArray, List.getElem_cons_succ, List.getElem_cons_zero, Act.put, List.setIfInBounds_toArray, List.set_cons_zero, List.set_cons_succ]
      refine Reg.oneT (i := 17) rfl (by kernel_rfl) (fun K hK => ?_)
      go_simp
      refine (CSameG.sameObjectG_any a b w10 HA.out.rd HBB.out.rd HLa.out HLb.out).mono ?_
      rintro e w11 ⟨rfl, b11⟩
      rw [HEQ.out]
      replace hHeld := four b11 HX.out.lt HY.out.lt hHeld
      replace HB := hide (HB.out.trans (b11.mono HB.out.size))
      replace HX := hide (HX.out.call b11)
      replace HY := hide (HY.out.call b11)
      replace HA := hide (HA.out.call b11)
      replace HBB := hide (HBB.out.call b11)
      clear b11
      refine hK.out _ _ hHeld ?_
      clear hK K
      try simp only [List.getElem_toArray, List.getElem_cons_succ, List.getElem_cons_zero, Act.put, List.setIfInBounds_toArray, List.set_cons_zero, List.set_cons_succ]
      refine Reg.takeT (i := 18) (v := ?_) rfl (by kernel_rfl) (by kernel_rfl) (by kernel_rfl) (by kernel_rfl) (fun _ _ _ h => h) (Or.inl ⟨by rfl, ?_⟩) (by assumption) ?_
      rotate_left 1
      focus (intro w hSw; (try dsimp only at hSw); go_simp; (try with_reducible rfl))
      try simp only [List.getElem_toArray, List.getElem_cons_succ, List.getElem_cons_zero, Act.put, List.setIfInBounds_toArray, List.set_cons_zero, List.set_cons_succ]
      refine Reg.takeT (i := 19) (v := ?_) rfl (by kernel_rfl) (by kernel_rfl) (by kernel_rfl) (by kernel_rfl) (fun _ _ _ h => h) (Or.inl ⟨by rfl, ?_⟩) (by assumption) ?_
      rotate_left 1
      focus (intro w hSw; (try dsimp only at hSw); go_simp; (try with_reducible rfl))
      try simp only [List.getElem_toArray, List.getElem_cons_succ, List.getElem_cons_zero, Act.put, List.setIfInBounds_toArray, List.set_cons_zero, List.set_cons_succ]
      refine Reg.takeT (i := 20) (v := ?_) rfl (by kernel_rfl) (by kernel_rfl) (by kernel_rfl) (by kernel_rfl) (fun _ _ _ h => h) (Or.inl ⟨by rfl, ?_⟩) (by assumption) ?_
      rotate_left 1
      focus (intro w hSw; (try dsimp only at hSw); go_simp; (try with_reducible rfl))
      try simp only [List.getElem_toArray, List.getElem_cons_succ, List.getElem_cons_zero, Act.put, List.setIfInBounds_toArray, List.set_cons_zero, List.set_cons_succ]
      refine Reg.takeT (i := 21) (v := ?_) rfl (by kernel_rfl) (by kernel_rfl) (by kernel_rfl) (by kernel_rfl) (fun _ _ _ h => h) (Or.inl ⟨by rfl, ?_⟩) (by assumption) ?_
      rotate_left 1
      focus (intro w hSw; (try dsimp only at hSw); go_simp; (try with_reducible rfl))
      try simp only [List.getElem_toArray, List.getElem_cons_succ, List.getElem_cons_zero, Act.put, List.setIfInBounds_toArray, List.set_cons_zero, List.set_cons_succ]
      refine Reg.oneT (i := 22) rfl (by kernel_rfl) (fun K hK => ?_)
      go_simp
      refine (CAlive.alive_any w11).mono ?_
      rintro e w' ⟨rfl, rfl⟩
      refine hK.out _ _ hHeld ?_
      clear hK K
      try simp only [List.getElem_toArray, List.getElem_cons_succ, List.getElem_cons_zero, Act.put, List.setIfInBounds_toArray, List.set_cons_zero, List.set_cons_succ]
      refine Reg.takeT (i := 23) (v := ?_) rfl (by kernel_rfl) (by kernel_rfl) (by kernel_rfl) (by kernel_rfl) (fun _ _ _ h => h) (Or.inl ⟨by rfl, ?_⟩) (by assumption) ?_
      rotate_left 1
      focus (intro w hSw; (try dsimp only at hSw); go_simp; (try with_reducible rfl))
      try simp only [List.getElem_toArray, List.getElem_cons_succ, List.getElem_cons_zero, Act.put, List.setIfInBounds_toArray, List.set_cons_zero, List.set_cons_succ]
      refine Reg.takeT (i := 24) (v := ?_) rfl (by kernel_rfl) (by kernel_rfl) (by kernel_rfl) (by kernel_rfl) (fun _ _ _ h => h) (Or.inl ⟨by rfl, ?_⟩) (by assumption) ?_
      rotate_left 1
      focus (intro w hSw; (try dsimp only at hSw); go_simp; (try with_reducible rfl))
      try simp only [List.getElem_toArray, List.getElem_cons_succ, List.getElem_cons_zero, Act.put, List.setIfInBounds_toArray, List.set_cons_zero, List.set_cons_succ]
      clear hHeld
      refine Reg.doneT (by kernel_rfl) ?_ _
      go_wp2_with fail
      go_ret
      exact ⟨rfl, HB.out⟩
end Go.Proofs.Ytmglgjchemecjaa.WFnSameObject
