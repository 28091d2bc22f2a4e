/- The draws of objects, and what their sizes give (without what StripWanted asks). -/
import Derived.Test.YtmglgjchemecjaaFnClearFixupsM12
import Derived.BigQuiet
set_option linter.unusedSimpArgs false
set_option linter.unusedVariables false
namespace Go.Proofs.Ytmglgjchemecjaa.DDrawB
set_option maxRecDepth 200000
open Go.ChangeShapes Go.WideShapes Go.ChangeAt Go.RowKit Kit CCode CFixups CSymbols PObj BObj PValid CObjValid PWarn PClear DPick DVar DSection DObject CCopyS CCopyI
/-- Sizes of what is drawn, stripped or cleared. -/
def Bnd (d : OD) : Prop := d.ss.length ≤ 8 ∧ d.ys.length ≤ 13 ∧ (∀ s ∈ d.ss, s.nm.size ≤ 9 ∧ s.zs.length ≤ 49 ∧ s.fs.length ≤ 6) ∧ ∀ y ∈ d.ys, y.1.size ≤ 9
theorem bnd_small {d : OD} (h : SmallO d) : Bnd d := ⟨by have := h.1; omega, h.2.1, fun s hs => by
  have := h.2.2.1 s hs
  exact ⟨this.1, this.2.1, by have := this.2.2.2.1; omega⟩, h.2.2.2⟩
theorem bnd_nil : Bnd ⟨[], []⟩ := ⟨by simp, by simp, (fun s hs => absurd hs List.not_mem_nil), (fun s hs => absurd hs List.not_mem_nil)⟩
theorem bnd_clear {d : OD} (h : Bnd d) : Bnd (clearD d) := by
  unfold clearD
  cases objOk d
  · exact bnd_nil
  · refine ⟨by simpa using h.1, h.2.1, fun s hs => ?_, h.2.2.2⟩
    obtain ⟨p, hp, rfl⟩ := List.mem_map.1 hs
    have := h.2.2.1 p hp
    exact ⟨this.1, by show (clrs p.zs p.fs).length ≤ 49; rw [clrs_len]; exact this.2.1, this.2.2⟩
theorem bnd_fit {o : OV} {w : World} {base : Nat} (h : Bnd o.d) (ho : OwnO w base o) : Fit o ∧ (∀ p ∈ o.ps, p.zs.length ≤ p.c) := by
  have h1 : o.ps.length ≤ 8 := by simpa [OV.d] using h.1
  have h2 : o.ys.length ≤ 13 := h.2.1
  refine ⟨⟨by omega, by omega, ho.2.cap.1, fun p hp => ?_, fun y hy => ?_⟩, fun p hp => ((ho.1.2.1 p hp).1).cap.1⟩
  · have := h.2.2.1 p.d (List.mem_map_of_mem hp)
    have h3 : p.nm.size ≤ 9 ∧ p.zs.length ≤ 49 ∧ p.fs.length ≤ 6 := this
    unfold maxLen
    omega
  · have := h.2.2.2 y hy
    unfold maxLen
    omega
set_option maxHeartbeats 4000000 in
set_option maxHeartbeats 4000000 in
theorem draw_DrawClearFixups {A : Option Addr} {zs : List Int} {c : Nat} {w : World} (hr : Rd w w.heap.size A (ints .u8 zs)) (hz : InR 0 255 zs) (hc : zs.length ≤ c) (hcm : c ≤ maxLen) :
    Calls Try.prog 27 #[.slice A zs.length c] w (fun e w' => ∃ d, Bnd d ∧ RetO d w e w') := by
  have b0 : Below w.heap.size w (w.alloc (.cells #[.slice none 0 0, .slice none 0 0] 26)) := (by repeat (first | exact Below.refl _ _ | with_reducible assumption | (refine Below.drew ?_) | (refine Below.drewN ?_ _) | (refine Below.alloc ?_ (by simp; try omega) _) | (refine Below.setCell ?_ (by simp; try omega) _)))
  have HO := hide (open_any A zs c _ ((hr.below b0).more b0.size) hz hc hcm)
  have HX := hide (Box.new w 26 #[.slice none 0 0, .slice none 0 0])
  have HB0 := hide b0
  clear hr hz hc hcm b0
  go_enter Try.func27, Try.ntmps27
  go_wp2_with fail
  refine HO.out.mono ?_
  rintro e w1 ⟨R, rfl, T, b1⟩
  have T0 := Tp.start T
  have hRl := T.1
  have X1 := HX.out.call b1
  have B1 := HB0.out.trans (b1.mono HB0.out.size)
  have hY1 := X1.lt
  go_wp2_with fail
  refine (object_any T0 (by omega) (by omega) 9 (by omega) (by omega)).mono ?_
  rintro e w2 ⟨⟨A1, c1, ps, Y1, yc1, ys⟩, rfl, sm, own, T2, _⟩
  have hsz : (w.alloc (.cells #[.slice none 0 0, .slice none 0 0] 26)).heap.size = w.heap.size + 1 := by simp
  have X2 := X1.grown T2.2 (fun k hk => by injection hk with hk; omega)
  have B2 := B1.trans (T2.below B1.size (show w.heap.size ≤ R by omega))
  have HSM := hide (bnd_small sm)
  have HFIN := hide (CObject.ret_object (own.down B1.size) B2 (fun k hk e => by have := (own.lt k hk).1; omega) (Nat.le_refl _))
  have q0 := X2.cell 0
  have q1 := X2.cell 1
  have f0 := X2.frozen 0
  have f1 := X2.frozen 1
  have hxl := X2.lt
  have kk := (X2.set 0 (.slice A1 ps.length c1)).set 1 (.slice Y1 ys.length yc1)
  have k0 := kk.cell 0
  have k1 := kk.cell 1
  simp only [List.setIfInBounds_toArray, List.set_cons_zero, List.set_cons_succ, List.getElem?_toArray, List.getElem?_cons_zero, List.getElem?_cons_succ] at q0 q1 k0 k1
  clear X1 X2 T T0 T2 b1 B1 B2 hsz HX HO HB0 kk own sm hRl hY1
  simp only [OV.v]
  go_wp2_with fail
  exact bodyPost_ret (v := OV.v ⟨A1, c1, ps, Y1, yc1, ys⟩) (by simp [results, Try.results27, go_sem, OV.v, k0, k1]) rfl ⟨_, HSM.out, HFIN.out⟩
end Go.Proofs.Ytmglgjchemecjaa.DDrawB
/- The program's ClearFixups. -/
namespace Go.Proofs.Ytmglgjchemecjaa.CClear
set_option maxRecDepth 200000
open Go.ChangeShapes Go.WideShapes Go.ChangeAt Go.RowKit Kit CCode CFixups CSymbols PObj BObj CMarkRows PValid CSecValid CUses CCovers CObjValid PWarn CCopyS CCopyI BStore PClear
set_option maxHeartbeats 4000000 in
theorem clearFixups_any (o : OV) (w : World) (hr : RdO w w.heap.size o) (hf : Fit o) (hn : Nils o) :
    Calls Try.prog 13 #[.agg #[.slice o.A o.ps.length o.c, .slice o.Y o.ys.length o.yc]] w (RetO (clearD o.d) w) := by
  have HR := hide hr
  have HF := hide hf
  have HN := hide hn
  clear hr hf hn
  have B0 : Below w.heap.size w ((w.alloc (.cells #[.slice o.A o.ps.length o.c, .slice o.Y o.ys.length o.yc] 26)).alloc (.cells #[.slice none 0 0, .slice none 0 0] 26)) := (by repeat (first | exact Below.refl _ _ | with_reducible assumption | (refine Below.drew ?_) | (refine Below.drewN ?_ _) | (refine Below.alloc ?_ (by simp; try omega) _) | (refine Below.setCell ?_ (by simp; try omega) _)))
  have HV0 := hide ((Box.new w 26 #[.slice o.A o.ps.length o.c, .slice o.Y o.ys.length o.yc]).alloc (.cells #[.slice none 0 0, .slice none 0 0] 26))
  have HR0 := (Box.new (w.alloc (.cells #[.slice o.A o.ps.length o.c, .slice o.Y o.ys.length o.yc] 26)) 26 #[.slice none 0 0, .slice none 0 0])
  simp only [World.size_alloc] at HR0
  have HRR0 := hide HR0
  clear HR0
  have HB0 := hide B0
  clear B0
  go_enter Try.func13, Try.ntmps13
  go_wp2_with fail
  generalize (w.alloc (.cells #[.slice o.A o.ps.length o.c, .slice o.Y o.ys.length o.yc] 26)).alloc (.cells #[.slice none 0 0, .slice none 0 0] 26) = w0 at *
  have hVR : w.heap.size < w.heap.size + 1 := by omega
  generalize w.heap.size + 1 = R at *
  refine (objectValid_any o w0 ((HR.out.below HB0.out).more HB0.out.size) HF.out).mono ?_
  rintro e w1 ⟨rfl, b1⟩
  have HV := hide (HV0.out.call b1)
  have HRR := hide (HRR0.out.call b1)
  have HB := hide (HB0.out.trans (b1.mono HB0.out.size))
  clear b1 HV0 HRR0 HB0
  cases hok : objOk o.d
  · have HVD := hide (clear_bad hok)
    have y0 := HRR.out.cell 0
    have y1 := HRR.out.cell 1
    have yf0 := HRR.out.frozen 0
    have yf1 := HRR.out.frozen 1
    simp only [List.getElem?_toArray, List.getElem?_cons_zero, List.getElem?_cons_succ] at y0 y1
    have hrl := HRR.out.lt
    have HFIN := hide (CObject.ret_object (w := w) (w1 := w1) (Y := R) (o := ⟨none, 0, [], none, 0, []⟩) ⟨⟨Row.empty _ _ _ _ _, (fun p hp => by cases hp), List.Pairwise.nil⟩, Row.empty _ _ _ _ _⟩ HB.out (by rintro k ((hk | ⟨p, hp, hk⟩) | hk) <;> first | (exact absurd hp List.not_mem_nil) | cases hk) (Nat.le_of_lt hVR))
    have kk := (HRR.out.set 0 (.slice none 0 0)).set 1 (.slice none 0 0)
    have k0 := kk.cell 0
    have k1 := kk.cell 1
    simp only [List.setIfInBounds_toArray, List.set_cons_zero, List.set_cons_succ, List.getElem?_toArray, List.getElem?_cons_zero, List.getElem?_cons_succ] at k0 k1
    clear kk hok
    go_wp2_with fail
    exact bodyPost_ret (v := OV.v ⟨none, 0, [], none, 0, []⟩) (by simp [results, Try.results13, go_sem, OV.v, k0, k1]) rfl (by rw [HVD.out]; exact HFIN.out)
  have hall := obj_all hok
  have HOK := hide hok
  have x0 := HV.out.cell 0
  have x1 := HV.out.cell 1
  simp only [List.getElem?_toArray, List.getElem?_cons_zero, List.getElem?_cons_succ] at x0 x1
  have hvl := HV.out.lt
  have HAL := hide hall
  have HS2 := hide (show o.ps.length ≤ 100 ∧ o.ys.length ≤ 100 from by
    have h1 := hall.1
    have h2 := hall.2.1
    simp only [OV.d, List.length_map] at h1 h2
    omega)
  clear hall hok
  go_wp2_with fail
  refine (copyObject_any o w1 ((HR.out.below HB.out).more HB.out.size) HF.out HN.out HS2.out).mono ?_
  rintro e w2 ⟨⟨A, c, ps, Y, yc, ys⟩, rfl, hd, hown, b2⟩
  have HB2 := hide (HB.out.trans (b2.mono HB.out.size))
  have HRR2 := hide (HRR.out.call b2)
  have HO2 := hide (hown.down HB.out.size)
  have HDD := hide (show clearD o.d = ⟨(ps.map clrA).map SV.d, ys⟩ by rw [← hd]; exact clear_ok (by have := HOK.out; rw [← hd] at this; exact this))
  have hal := HAL.out
  rw [← hd] at hal
  have hpl : ps.length ≤ 8 := by simpa [OV.d] using hal.1
  have HFX := hide (show ∀ p ∈ ps, p.fs.length ≤ 6 ∧ p.zs.length ≤ 48 ∧ FxOk p from fun p hp => by
    have h := hal.2.2 p.d (List.mem_map_of_mem hp)
    exact ⟨h.1, h.2.1, fun f hf => (h.2.2 f hf).1⟩)
  clear hd hown b2 hal HAL HS2 HV HB HRR x0 x1 hvl HOK HR HF HN
  simp only [OV.v]
  go_wp2_with fail
  have HX3 := hide (Box.new w2 26 #[.slice A ps.length c, .slice Y ys.length yc])
  have HO3 := hide (HO2.out.call ((Below.refl _ _).alloc (Nat.le_refl _) (.cells #[.slice A ps.length c, .slice Y ys.length yc] 26)))
  have HB3 := hide (HB2.out.alloc HB2.out.size (.cells #[.slice A ps.length c, .slice Y ys.length yc] 26))
  have HRR3 := hide (HRR2.out.alloc (.cells #[.slice A ps.length c, .slice Y ys.length yc] 26))
  have hRX : R < w2.heap.size := HRR2.out.lt
  clear HB2 HRR2 HO2
  generalize w2.alloc (.cells #[.slice A ps.length c, .slice Y ys.length yc] 26) = w3 at *
  generalize w2.heap.size = X at *
  have x0 := HX3.out.cell 0
  simp only [List.getElem?_toArray, List.getElem?_cons_zero, List.getElem?_cons_succ] at x0
  have hxl := HX3.out.lt
  go_wp2_with fail
  clear x0 hxl
  go_loopw [17] (fun i wi => ∃ (k : Nat), k ≤ ps.length ∧ i = .int .i64 k ∧ OwnO wi w.heap.size ⟨A, c, (ps.take k).map clrA ++ ps.drop k, Y, yc, ys⟩ ∧ Box wi X 26 #[.slice A ps.length c, .slice Y ys.length yc] ∧ Box wi R 26 #[.slice none 0 0, .slice none 0 0] ∧ Below w.heap.size w wi) (fun i _ => ps.length - (intOf i).toNat)
  case atStart => exact ⟨0, Nat.zero_le _, rfl, by simpa using HO3.out, HX3.out, HRR3.out, HB3.out⟩
  case round =>
    clear HX3 HO3 HB3 HRR3
    obtain ⟨k, hk, rfl, ho, hx, hrr, hb⟩ := hrel
    have HX := hide hx
    have HRR := hide hrr
    have HB := hide hb
    by_cases hlt : k < ps.length
    · have hdr : ps.drop k = ps[k] :: ps.drop (k + 1) := List.drop_eq_getElem_cons hlt
      rw [hdr] at ho
      have htk : (ps.take (k + 1)).map clrA = (ps.take k).map clrA ++ [clrA ps[k]] := by rw [take_succ hlt, List.map_append]; rfl
      have hl1 : ((ps.take k).map clrA).length = k := by simp; omega
      have HFP := hide (HFX.out _ (List.getElem_mem hlt))
      obtain ⟨b, off, hA, hbg, hc⟩ := row_at ho.1.rd
      rw [hl1] at hc
      have HTK := hide (And.intro htk hl1)
      have HO := hide ho
      clear ho hx hrr hb htk hl1 hdr
      generalize (ps.take k).map clrA = l1 at *
      generalize ps[k] = p at *
      generalize hl2 : ps.drop (k + 1) = l2 at *
      have HL2 := hide hl2
      clear hl2
      have hc0 := hc 0 _ rfl
      have hc1 := hc 1 _ rfl
      have hc2 := hc 2 _ rfl
      have hc3 := hc 3 _ rfl
      have hc4 := hc 4 _ rfl
      have hc5 := hc 5 _ rfl
      simp only [Nat.add_zero] at hc0
      clear hc
      subst hA
      have hfl := HFP.out.1
      go_wp2_with fail
      have B1 : Below wr.heap.size wr (wr.alloc (.cells #[.string p.nm, .int .i64 p.kd, .int .i64 p.al, .slice p.A p.zs.length p.c, .int .i64 p.sz, .slice p.F p.fs.length p.fc] 73)) := (by repeat (first | exact Below.refl _ _ | with_reducible assumption | (refine Below.drew ?_) | (refine Below.drewN ?_ _) | (refine Below.alloc ?_ (by simp; try omega) _) | (refine Below.setCell ?_ (by simp; try omega) _)))
      have HS1 := hide (Box.new wr 73 #[.string p.nm, .int .i64 p.kd, .int .i64 p.al, .slice p.A p.zs.length p.c, .int .i64 p.sz, .slice p.F p.fs.length p.fc])
      have HX1 := hide (HX.out.call B1)
      have HRR1 := hide (HRR.out.call B1)
      have HO1 := hide (HO.out.call B1)
      have HB1 := hide (HB.out.trans (B1.mono HB.out.size))
      clear B1 HX HRR HO HB hc0 hc1 hc2 hc3 hc4 hc5
      generalize wr.alloc (.cells #[.string p.nm, .int .i64 p.kd, .int .i64 p.al, .slice p.A p.zs.length p.c, .int .i64 p.sz, .slice p.F p.fs.length p.fc] 73) = wa at *
      generalize wr.heap.size = S at *
      have s5 := HS1.out.cell 5
      simp only [List.getElem?_toArray, List.getElem?_cons_zero, List.getElem?_cons_succ] at s5
      have hsl := HS1.out.lt
      go_wp2_with fail
      clear s5 hsl
      go_loopw [24] (fun i wi => ∃ (j : Nat), j ≤ p.fs.length ∧ i = .int .i64 j ∧ OwnO wi w.heap.size ⟨some ⟨b, off, none⟩, c, l1 ++ clrP p (p.fs.take j) :: l2, Y, yc, ys⟩ ∧ Box wi S 73 #[.string p.nm, .int .i64 p.kd, .int .i64 p.al, .slice p.A p.zs.length p.c, .int .i64 p.sz, .slice p.F p.fs.length p.fc] ∧ Box wi X 26 #[.slice (some ⟨b, off, none⟩) ps.length c, .slice Y ys.length yc] ∧ Box wi R 26 #[.slice none 0 0, .slice none 0 0] ∧ Below w.heap.size w wi) (fun i _ => p.fs.length - (intOf i).toNat)
      case atStart => exact ⟨0, Nat.zero_le _, rfl, HO1.out, HS1.out, HX1.out, HRR1.out, HB1.out⟩
      case round =>
        clear HO1 HS1 HX1 HRR1 HB1
        obtain ⟨j, hj, rfl, ho, hs, hx, hrr, hb⟩ := hrel
        by_cases hjl : j < p.fs.length
        · have hq : RwS wr w.heap.size (clrP p (p.fs.take j)) := ho.1.2.1 _ (by simp)
          obtain ⟨bf, of, hF, hbf, hcf⟩ := Rd.row (xs := p.fs) fixupC_len (by decide) hq.rd.2 hjl
          have hF : p.F = some ⟨bf, of, none⟩ := hF
          have hfx := HFP.out.2.2 _ (List.getElem_mem hjl)
          have HTF := hide (show clrP p (p.fs.take (j + 1)) = { clrP p (p.fs.take j) with zs := setz (clrs p.zs (p.fs.take j)) (p.fs[j].1.toNat) (wide p.fs[j].2.1).toNat } by rw [take_succ hjl]; simp only [clrP, clrs_snoc]; rfl)
          have hzl48 := HFP.out.2.1
          generalize p.fs[j] = f at *
          obtain ⟨f0, f1, f2, f3⟩ := f
          simp only at hcf hfx
          obtain ⟨i0, hi1, hi2⟩ := hfx
          obtain ⟨a, rfl⟩ := Int.eq_ofNat_of_zero_le i0
          have hwd := wide_bd f1
          have HFW := hide (fun V => fixupWide_any f1 V)
          obtain ⟨wd, hwd'⟩ := Int.eq_ofNat_of_zero_le hwd.1
          rw [hwd'] at HFW hi1 hi2
          rw [hwd'] at HTF
          simp only [Int.toNat_natCast] at HTF
          have hwd0 : 0 < wd := by omega
          have hsum : a + wd ≤ p.zs.length := by omega
          have HX := hide hx
          have HRR := hide hrr
          have HB := hide hb
          have HO := hide ho
          have HS := hide hs
          have hc0 := hcf 0 _ rfl
          have hc1 := hcf 1 _ rfl
          have hc2 := hcf 2 _ rfl
          have hc3 := hcf 3 _ rfl
          simp only [Nat.add_zero] at hc0
          clear ho hs hx hrr hb hq hcf hwd
          have HHF := hide hF
          rw [hF]
          clear hF
          go_wp2_with fail
          have B1 : Below wr.heap.size wr (wr.alloc (.cells #[.int .i64 a, .int .i64 f1, .int .i64 f2, .int .i64 f3] 77)) := (by repeat (first | exact Below.refl _ _ | with_reducible assumption | (refine Below.drew ?_) | (refine Below.drewN ?_ _) | (refine Below.alloc ?_ (by simp; try omega) _) | (refine Below.setCell ?_ (by simp; try omega) _)))
          have HZ1 := hide (Box.new wr 77 #[.int .i64 a, .int .i64 f1, .int .i64 f2, .int .i64 f3])
          have HS1 := hide (HS.out.call B1)
          have HX1 := hide (HX.out.call B1)
          have HRR1 := hide (HRR.out.call B1)
          have HO1 := hide (HO.out.call B1)
          have HB1 := hide (HB.out.trans (B1.mono HB.out.size))
          clear B1 HX HRR HO HB HS hc0 hc1 hc2 hc3
          generalize wr.alloc (.cells #[.int .i64 a, .int .i64 f1, .int .i64 f2, .int .i64 f3] 77) = wz at *
          generalize wr.heap.size = Z at *
          have hq : RwS wz w.heap.size (clrP p (p.fs.take j)) := HO1.out.1.2.1 _ (by simp)
          obtain ⟨g, hA, hbg2, hgl, hblk, hown⟩ := own_of hq.1 (by simp only [clrP, clrs_len]; omega)
          have hA : p.A = some ⟨g, 0, none⟩ := hA
          have hcap : p.zs.length ≤ p.c := by have := hq.1.cap.1; simpa [clrP, clrs_len] using this
          have HGC := hide (show ∀ j, j < wd → (wz.cell? ⟨g, a + j, none⟩).isSome = true ∧ wz.frozen? ⟨g, a + j, none⟩ = false from fun j hj => by
            obtain ⟨g', hg', hc', _⟩ := hq.1.at1 (i := a + j) (by simp only [clrP, clrs_len]; omega)
            have e := hA.symm.trans hg'
            simp only [Option.some.injEq, Addr.mk.injEq, and_true] at e
            subst e
            exact ⟨by rw [hc']; rfl, hown.frozenAt _⟩)
          have HNE := hide (And.intro (hq.1.box HS1.out (by decide) g hblk) (And.intro (hq.1.box HZ1.out (by decide) g hblk) (And.intro (hq.1.box HX1.out (by decide) g hblk) (hq.1.box HRR1.out (by decide) g hblk))))
          have HA := hide hA
          have HGB := hide hbg2
          have s3 := HS1.out.cell 3
          have z0 := HZ1.out.cell 0
          have z1 := HZ1.out.cell 1
          simp only [List.getElem?_toArray, List.getElem?_cons_zero, List.getElem?_cons_succ] at s3 z0 z1
          rw [hA] at s3
          have hsl := HS1.out.lt
          have hzl := HZ1.out.lt
          have hw1 : IntKind.i64.wrap ((a : Int) + wd) = (a : Int) + wd := IntWalk.i64_in _ (by omega)
          have hca : a ≤ p.c := by omega
          have ht : ((a : Int) + wd).toNat = a + wd := by omega
          have hq0 : (0 : Int) ≤ (a : Int) + wd := by omega
          have hq1 : (a : Int) + wd ≤ p.c := by omega
          have hq2 : a ≤ a + wd := by omega
          have hcd : a + wd - a = wd := by omega
          have hne : ¬ p.c = a := by omega
          clear hq hown hblk hbg2 hA hgl
          have Z0 : wz.cell? ⟨S, 3, none⟩ = some (.slice (some ⟨g, 0, none⟩) p.zs.length p.c) ∧ wz.cell? ⟨Z, 0, none⟩ = some (.int .i64 a) ∧ wz.cell? ⟨Z, 1, none⟩ = some (.int .i64 f1) := ⟨s3, z0, z1⟩
          refine Reg.startT (fun W => W.cell? ⟨S, 3, none⟩ = some (.slice (some ⟨g, 0, none⟩) p.zs.length p.c) ∧ W.cell? ⟨Z, 0, none⟩ = some (.int .i64 a) ∧ W.cell? ⟨Z, 1, none⟩ = some (.int .i64 f1)) (fun _ => false) (by kernel_rfl) ?_
          have hHeld : wz.drew.cell? ⟨S, 3, none⟩ = some (.slice (some ⟨g, 0, none⟩) p.zs.length p.c) ∧ wz.drew.cell? ⟨Z, 0, none⟩ = some (.int .i64 a) ∧ wz.drew.cell? ⟨Z, 1, none⟩ = some (.int .i64 f1) := Z0
          clear s3 z0 z1
          refine Reg.takeT (i := 0) (v := ?_) rfl (by kernel_rfl) (by kernel_rfl) (by kernel_rfl) (by kernel_rfl) (fun _ _ _ h => h) (Or.inl ⟨by rfl, ?_⟩) (by assumption) ?_
          rotate_left 1
          focus (intro w hSw; (try dsimp only at hSw); go_simp; (try with_reducible rfl))
          try simp only [List.getElem_toArray, List.getElem_cons_succ, List.getElem_cons_zero, Act.put, List.setIfInBounds_toArray, List.set_cons_zero, List.set_cons_succ]
          refine Reg.takeT (i := 1) (v := ?_) rfl (by kernel_rfl) (by kernel_rfl) (by kernel_rfl) (by kernel_rfl) (fun _ _ _ h => h) (Or.inl ⟨by rfl, ?_⟩) (by assumption) ?_
          rotate_left 1
          focus (intro w hSw; (try dsimp only at hSw); go_simp; (try with_reducible rfl))
          try simp only [List.getElem_toArray, List.getElem_cons_succ, List.getElem_cons_zero, Act.put, List.setIfInBounds_toArray, List.set_cons_zero, List.set_cons_succ]
          refine Reg.takeT (i := 2) (v := ?_) rfl (by kernel_rfl) (by kernel_rfl) (by kernel_rfl) (by kernel_rfl) (fun _ _ _ h => h) (Or.inl ⟨by rfl, ?_⟩) (by assumption) ?_
          rotate_left 1
          focus (intro w hSw; (try dsimp only at hSw); go_simp; (try with_reducible rfl))
          try simp only [List.getElem_toArray, List.getElem_cons_succ, List.getElem_cons_zero, Act.put, List.setIfInBounds_toArray, List.set_cons_zero, List.set_cons_succ]
          refine Reg.takeT (i := 3) (v := ?_) rfl (by kernel_rfl) (by kernel_rfl) (by kernel_rfl) (by kernel_rfl) (fun _ _ _ h => h) (Or.inl ⟨by rfl, ?_⟩) (by assumption) ?_
          rotate_left 1
          focus (intro w hSw; (try dsimp only at hSw); go_simp; (try with_reducible rfl))
          try simp only [List.getElem_toArray, List.getElem_cons_succ, List.getElem_cons_zero, Act.put, List.setIfInBounds_toArray, List.set_cons_zero, List.set_cons_succ]
          refine Reg.takeT (i := 4) (v := ?_) rfl (by kernel_rfl) (by kernel_rfl) (by kernel_rfl) (by kernel_rfl) (fun _ _ _ h => h) (Or.inl ⟨by rfl, ?_⟩) (by assumption) ?_
          rotate_left 1
          focus (intro w hSw; (try dsimp only at hSw); go_simp; (try with_reducible rfl))
          try simp only [List.getElem_toArray, List.getElem_cons_succ, List.getElem_cons_zero, Act.put, List.setIfInBounds_toArray, List.set_cons_zero, List.set_cons_succ]
          refine Reg.takeT (i := 5) (v := ?_) rfl (by kernel_rfl) (by kernel_rfl) (by kernel_rfl) (by kernel_rfl) (fun _ _ _ h => h) (Or.inl ⟨by rfl, ?_⟩) (by assumption) ?_
          rotate_left 1
          focus (intro w hSw; (try dsimp only at hSw); go_simp; (try with_reducible rfl))
          try simp only [List.getElem_toArray, List.getElem_cons_succ, List.getElem_cons_zero, Act.put, List.setIfInBounds_toArray, List.set_cons_zero, List.set_cons_succ]
          refine Reg.takeT (i := 6) (v := ?_) rfl (by kernel_rfl) (by kernel_rfl) (by kernel_rfl) (by kernel_rfl) (fun _ _ _ h => h) (Or.inl ⟨by rfl, ?_⟩) (by assumption) ?_
          rotate_left 1
          focus (intro w hSw; (try dsimp only at hSw); go_simp; (try with_reducible rfl))
          try simp only [List.getElem_toArray, List.getElem_cons_succ, List.getElem_cons_zero, Act.put, List.setIfInBounds_toArray, List.set_cons_zero, List.set_cons_succ]
          refine Reg.takeT (i := 7) (v := ?_) rfl (by kernel_rfl) (by kernel_rfl) (by kernel_rfl) (by kernel_rfl) (fun _ _ _ h => h) (Or.inl ⟨by rfl, ?_⟩) (by assumption) ?_
          rotate_left 1
          focus (intro w hSw; (try dsimp only at hSw); go_simp; (try with_reducible rfl))
          try simp only [List.getElem_toArray, List.getElem_cons_succ, List.getElem_cons_zero, Act.put, List.setIfInBounds_toArray, List.set_cons_zero, List.set_cons_succ]
          refine Reg.oneT (i := 8) rfl (by kernel_rfl) (fun K hK => ?_)
          go_simp
          refine (HFW.out _).mono ?_
          rintro e w5 ⟨rfl, rfl⟩
          refine hK.out _ _ hHeld ?_
          clear hK K
          try simp only [List.getElem_toArray, List.getElem_cons_succ, List.getElem_cons_zero, Act.put, List.setIfInBounds_toArray, List.set_cons_zero, List.set_cons_succ]
          refine Reg.takeT (i := 9) (v := ?_) rfl (by kernel_rfl) (by kernel_rfl) (by kernel_rfl) (by kernel_rfl) (fun _ _ _ h => h) (Or.inl ⟨by rfl, ?_⟩) (by assumption) ?_
          rotate_left 1
          focus (intro w hSw; (try dsimp only at hSw); go_simp; (try with_reducible rfl))
          try simp only [List.getElem_toArray, List.getElem_cons_succ, List.getElem_cons_zero, Act.put, List.setIfInBounds_toArray, List.set_cons_zero, List.set_cons_succ]
          refine Reg.takeT (i := 10) (v := ?_) rfl (by kernel_rfl) (by kernel_rfl) (by kernel_rfl) (by kernel_rfl) (fun _ _ _ h => h) (Or.inl ⟨by rfl, ?_⟩) (by assumption) ?_
          rotate_left 1
          focus (intro w hSw; (try dsimp only at hSw); go_simp; (try with_reducible rfl))
          try simp only [List.getElem_toArray, List.getElem_cons_succ, List.getElem_cons_zero, Act.put, List.setIfInBounds_toArray, List.set_cons_zero, List.set_cons_succ]
          refine Reg.oneT (i := 11) rfl (by kernel_rfl) (fun K hK => ?_)
          refine step_clear (by rfl) _ (by rfl) g a wd (p.c - a) (by with_unfolding_all rfl) hwd0 (fun j hj => (HGC.out j hj).1) (fun j hj => (HGC.out j hj).2) ?_
          have HO2 := hide (PClear.OwnO.clear (q := clrP p (p.fs.take j)) HA.out a wd wz.drew (by simp only [clrP, clrs_len]; omega) (HO1.out.call (below_dr (Below.refl _ _))))
          have HS2 := hide (clear_box (o := a) (vs := List.replicate wd (.int .u8 0)) HS1.out.drew (Ne.symm HNE.out.1))
          have HZ2 := hide (clear_box (o := a) (vs := List.replicate wd (.int .u8 0)) HZ1.out.drew (Ne.symm HNE.out.2.1))
          have HX2 := hide (clear_box (o := a) (vs := List.replicate wd (.int .u8 0)) HX1.out.drew (Ne.symm HNE.out.2.2.1))
          have HRR2 := hide (clear_box (o := a) (vs := List.replicate wd (.int .u8 0)) HRR1.out.drew (Ne.symm HNE.out.2.2.2))
          have HB2 := hide ((HB1.out.drew).trans (Lib.below_setCells_w HGB.out (List.replicate wd (.int .u8 0)) a wz.drew))
          clear HO1 HS1 HZ1 HX1 HRR1 HB1 Z0 hHeld hsl hzl HGC HNE
          generalize wz.drew.setCells g a (List.replicate wd (.int .u8 0)) = w6 at *
          refine hK.out _ _ ⟨by rw [← HA.out]; exact HS2.out.cell 3, HZ2.out.cell 0, HZ2.out.cell 1⟩ ?_
          clear hK K
          try simp only [List.getElem_toArray, List.getElem_cons_succ, List.getElem_cons_zero, Act.put, List.setIfInBounds_toArray, List.set_cons_zero, List.set_cons_succ]
          refine Reg.doneT (by kernel_rfl) ?_ _
          go_wp2_with fail
          refine ⟨⟨j + 1, by omega, by go_num, by rw [HTF.out]; exact HO2.out, by have h := HS2.out; rw [HHF.out] at h; exact h, HX2.out, HRR2.out, HB2.out⟩, by simp [intOf]; omega⟩
        · have e : clrP p (p.fs.take j) = clrA p := by rw [List.take_of_length_le (by omega)]; rfl
          rw [e] at ho
          have HX := hide hx
          have HRR := hide hrr
          have HB := hide hb
          have HO := hide ho
          clear ho hs hx hrr hb e
          go_wp2_with fail
          refine ⟨⟨k + 1, by omega, by go_num, by rw [HTK.out.1, HL2.out, List.append_assoc]; exact HO.out, HX.out, HRR.out, HB.out⟩, by simp [intOf]; omega⟩
    · have e : (ps.take k).map clrA ++ ps.drop k = ps.map clrA := by rw [List.take_of_length_le (by omega), List.drop_of_length_le (by omega), List.append_nil]
      rw [e] at ho
      have HFIN := hide (CObject.ret_object ho hb (by
        rintro j ((hj | ⟨x, hx', hj⟩) | hj)
        · exact ho.1.1.box hrr (by decide) j hj
        · exact (ho.1.2.1 x hx').box hrr (by decide) (by decide) j hj
        · exact ho.2.box hrr (by decide) j hj) (Nat.le_of_lt hVR))
      have y0 := hrr.cell 0
      have y1 := hrr.cell 1
      have yf0 := hrr.frozen 0
      have yf1 := hrr.frozen 1
      have hrl := hrr.lt
      have x0 := hx.cell 0
      have x1 := hx.cell 1
      have hxl := hx.lt
      simp only [List.getElem?_toArray, List.getElem?_cons_zero, List.getElem?_cons_succ] at y0 y1 x0 x1
      have kk := (HRR.out.set 0 (.slice A ps.length c)).set 1 (.slice Y ys.length yc)
      have k0 := kk.cell 0
      have k1 := kk.cell 1
      simp only [List.setIfInBounds_toArray, List.set_cons_zero, List.set_cons_succ, List.getElem?_toArray, List.getElem?_cons_zero, List.getElem?_cons_succ] at k0 k1
      clear kk ho hx hrr hb e
      go_wp2_with fail
      refine bodyPost_ret (v := OV.v ⟨A, c, ps.map clrA, Y, yc, ys⟩) (by simp [results, Try.results13, go_sem, OV.v, k0, k1]) rfl ?_
      rw [HDD.out]
      have h := HFIN.out
      simp only [List.length_map] at h
      exact h
end Go.Proofs.Ytmglgjchemecjaa.CClear
/- The reference's ClearFixups. -/
namespace Go.Proofs.Ytmglgjchemecjaa.CClearS
set_option maxRecDepth 200000
open Go.ChangeShapes Go.WideShapes Go.ChangeAt Go.RowKit Kit CCode CFixups CSymbols PObj BObj CMarkRows PValid CSecValid CUses CCovers CObjValid CObjValidS PWarn CCopyS CCopyI BStore PClear
theorem row_own {w : World} {base c : Nat} {A : Option Addr} {l1 l2 : List SV} {q : SV} (h : OwnSs w base A c (l1 ++ q :: l2)) :
    ∃ b, A = some ⟨b, 0, none⟩ ∧ blk A c = some b ∧ b < w.heap.size ∧ ∀ j u, (secC q)[j]? = some u → w.cell? ⟨b, l1.length * 6 + j, none⟩ = some u := by
  obtain ⟨b, hA, _, hb, hk, _⟩ := own_of h.1 (by rw [List.length_append, List.length_cons]; omega)
  obtain ⟨b', off, hA', _, hc⟩ := row_at h.rd
  have e := hA.symm.trans hA'
  simp only [Option.some.injEq, Addr.mk.injEq, and_true] at e
  obtain ⟨rfl, rfl⟩ := e
  exact ⟨b, hA, hk, hb, fun j u hu => by have := hc j u hu; rwa [Nat.zero_add] at this⟩
set_option maxHeartbeats 4000000 in
theorem clearFixupsS_any (o : OV) (w : World) (hr : RdO w w.heap.size o) (hf : Fit o) (hn : Nils o) :
    Calls Try.prog 23 #[.agg #[.slice o.A o.ps.length o.c, .slice o.Y o.ys.length o.yc]] w (RetO (clearD o.d) w) := by
  have HR := hide hr
  have HF := hide hf
  have HN := hide hn
  clear hr hf hn
  have B0 : Below w.heap.size w ((w.alloc (.cells #[.slice o.A o.ps.length o.c, .slice o.Y o.ys.length o.yc] 26)).alloc (.cells #[.slice none 0 0, .slice none 0 0] 26)) := (by repeat (first | exact Below.refl _ _ | with_reducible assumption | (refine Below.drew ?_) | (refine Below.drewN ?_ _) | (refine Below.alloc ?_ (by simp; try omega) _) | (refine Below.setCell ?_ (by simp; try omega) _)))
  have HV0 := hide ((Box.new w 26 #[.slice o.A o.ps.length o.c, .slice o.Y o.ys.length o.yc]).alloc (.cells #[.slice none 0 0, .slice none 0 0] 26))
  have HR0 := (Box.new (w.alloc (.cells #[.slice o.A o.ps.length o.c, .slice o.Y o.ys.length o.yc] 26)) 26 #[.slice none 0 0, .slice none 0 0])
  simp only [World.size_alloc] at HR0
  have HRR0 := hide HR0
  clear HR0
  have HB0 := hide B0
  clear B0
  go_enter Try.func23, Try.ntmps23
  go_wp2_with fail
  generalize (w.alloc (.cells #[.slice o.A o.ps.length o.c, .slice o.Y o.ys.length o.yc] 26)).alloc (.cells #[.slice none 0 0, .slice none 0 0] 26) = w0 at *
  have hVR : w.heap.size < w.heap.size + 1 := by omega
  generalize w.heap.size + 1 = R at *
  refine (objectValidS_any o w0 ((HR.out.below HB0.out).more HB0.out.size) HF.out).mono ?_
  rintro e w1 ⟨rfl, b1⟩
  have HV := hide (HV0.out.call b1)
  have HRR := hide (HRR0.out.call b1)
  have HB := hide (HB0.out.trans (b1.mono HB0.out.size))
  clear b1 HV0 HRR0 HB0
  cases hok : objOk o.d
  · have HVD := hide (clear_bad hok)
    have y0 := HRR.out.cell 0
    have y1 := HRR.out.cell 1
    have yf0 := HRR.out.frozen 0
    have yf1 := HRR.out.frozen 1
    simp only [List.getElem?_toArray, List.getElem?_cons_zero, List.getElem?_cons_succ] at y0 y1
    have hrl := HRR.out.lt
    have HFIN := hide (CObject.ret_object (w := w) (w1 := w1) (Y := R) (o := ⟨none, 0, [], none, 0, []⟩) ⟨⟨Row.empty _ _ _ _ _, (fun p hp => by cases hp), List.Pairwise.nil⟩, Row.empty _ _ _ _ _⟩ HB.out (by rintro k ((hk | ⟨p, hp, hk⟩) | hk) <;> first | (exact absurd hp List.not_mem_nil) | cases hk) (Nat.le_of_lt hVR))
    have kk := (HRR.out.set 0 (.slice none 0 0)).set 1 (.slice none 0 0)
    have k0 := kk.cell 0
    have k1 := kk.cell 1
    simp only [List.setIfInBounds_toArray, List.set_cons_zero, List.set_cons_succ, List.getElem?_toArray, List.getElem?_cons_zero, List.getElem?_cons_succ] at k0 k1
    clear kk hok
    go_wp2_with fail
    exact bodyPost_ret (v := OV.v ⟨none, 0, [], none, 0, []⟩) (by simp [results, Try.results23, go_sem, OV.v, k0, k1]) rfl (by rw [HVD.out]; exact HFIN.out)
  have hall := obj_all hok
  have HOK := hide hok
  have x0 := HV.out.cell 0
  have x1 := HV.out.cell 1
  simp only [List.getElem?_toArray, List.getElem?_cons_zero, List.getElem?_cons_succ] at x0 x1
  have hvl := HV.out.lt
  have HAL := hide hall
  have HS2 := hide (show o.ps.length ≤ 100 ∧ o.ys.length ≤ 100 from by
    have h1 := hall.1
    have h2 := hall.2.1
    simp only [OV.d, List.length_map] at h1 h2
    omega)
  clear hall hok
  go_wp2_with fail
  refine (l4Copy_any o w1 ((HR.out.below HB.out).more HB.out.size) HF.out HN.out HS2.out).mono ?_
  rintro e w2 ⟨⟨A, c, ps, Y, yc, ys⟩, rfl, hd, hown, b2⟩
  have HB2 := hide (HB.out.trans (b2.mono HB.out.size))
  have HRR2 := hide (HRR.out.call b2)
  have HO2 := hide (hown.down HB.out.size)
  have HDD := hide (show clearD o.d = ⟨(ps.map clrA).map SV.d, ys⟩ by rw [← hd]; exact clear_ok (by have := HOK.out; rw [← hd] at this; exact this))
  have hal := HAL.out
  rw [← hd] at hal
  have hpl : ps.length ≤ 8 := by simpa [OV.d] using hal.1
  have HFX := hide (show ∀ p ∈ ps, p.fs.length ≤ 6 ∧ p.zs.length ≤ 48 ∧ FxOk p from fun p hp => by
    have h := hal.2.2 p.d (List.mem_map_of_mem hp)
    exact ⟨h.1, h.2.1, fun f hf => (h.2.2 f hf).1⟩)
  clear hd hown b2 hal HAL HS2 HV HB HRR x0 x1 hvl HOK HR HF HN
  simp only [OV.v]
  go_wp2_with fail
  have HX3 := hide (Box.new w2 26 #[.slice A ps.length c, .slice Y ys.length yc])
  have HO3 := hide (HO2.out.call ((Below.refl _ _).alloc (Nat.le_refl _) (.cells #[.slice A ps.length c, .slice Y ys.length yc] 26)))
  have HB3 := hide (HB2.out.alloc HB2.out.size (.cells #[.slice A ps.length c, .slice Y ys.length yc] 26))
  have HRR3 := hide (HRR2.out.alloc (.cells #[.slice A ps.length c, .slice Y ys.length yc] 26))
  have hRX : R < w2.heap.size := HRR2.out.lt
  clear HB2 HRR2 HO2
  generalize w2.alloc (.cells #[.slice A ps.length c, .slice Y ys.length yc] 26) = w3 at *
  generalize w2.heap.size = X at *
  go_wp2_with fail
  go_loopw [4] (fun i wi => ∃ (k : Nat), k ≤ ps.length ∧ i = .int .i64 k ∧ OwnO wi w.heap.size ⟨A, c, (ps.take k).map clrA ++ ps.drop k, Y, yc, ys⟩ ∧ Box wi X 26 #[.slice A ps.length c, .slice Y ys.length yc] ∧ Box wi R 26 #[.slice none 0 0, .slice none 0 0] ∧ Below w.heap.size w wi) (fun i _ => ps.length - (intOf i).toNat)
  case atStart => exact ⟨0, Nat.zero_le _, rfl, by simpa using HO3.out, HX3.out, HRR3.out, HB3.out⟩
  case round =>
    clear HX3 HO3 HB3 HRR3
    obtain ⟨k, hk, rfl, ho, hx, hrr, hb⟩ := hrel
    have HX := hide hx
    have HRR := hide hrr
    have HB := hide hb
    by_cases hlt : k < ps.length
    · have hdr : ps.drop k = ps[k] :: ps.drop (k + 1) := List.drop_eq_getElem_cons hlt
      rw [hdr] at ho
      have htk : (ps.take (k + 1)).map clrA = (ps.take k).map clrA ++ [clrA ps[k]] := by rw [take_succ hlt, List.map_append]; rfl
      have hl1 : ((ps.take k).map clrA).length = k := by simp; omega
      have HFP := hide (HFX.out _ (List.getElem_mem hlt))
      have HTK := hide (And.intro htk hl1)
      have HO := hide ho
      have x0 := hx.cell 0
      simp only [List.getElem?_toArray, List.getElem?_cons_zero, List.getElem?_cons_succ] at x0
      have hxl := hx.lt
      clear ho hx hrr hb htk hl1 hdr
      generalize (ps.take k).map clrA = l1 at *
      generalize ps[k] = p at *
      generalize hl2 : ps.drop (k + 1) = l2 at *
      have HL2 := hide hl2
      clear hl2
      have hfl := HFP.out.1
      go_wp2_with fail
      clear x0 hxl
      go_loopw [5] (fun i wi => ∃ (j : Nat), j ≤ p.fs.length ∧ i = .int .i64 j ∧ OwnO wi w.heap.size ⟨A, c, l1 ++ clrP p (p.fs.take j) :: l2, Y, yc, ys⟩ ∧ Box wi X 26 #[.slice A ps.length c, .slice Y ys.length yc] ∧ Box wi R 26 #[.slice none 0 0, .slice none 0 0] ∧ Below w.heap.size w wi) (fun i _ => p.fs.length - (intOf i).toNat)
      case atStart => exact ⟨0, Nat.zero_le _, rfl, HO.out, HX.out, HRR.out, HB.out⟩
      case round =>
        clear HO HX HRR HB
        obtain ⟨j, hj, rfl, ho, hx, hrr, hb⟩ := hrel
        obtain ⟨b, hA0, _, hbg, hc⟩ := row_own ho.1
        have hA : A = some ⟨b, 0, none⟩ := hA0
        clear hA0
        rw [HTK.out.2, clrP_cells] at hc
        have x0 := hx.cell 0
        simp only [List.getElem?_toArray, List.getElem?_cons_zero, List.getElem?_cons_succ] at x0
        rw [hA] at x0
        have hxl := hx.lt
        have hc3 := hc 3 _ rfl
        have hc5 := hc 5 _ rfl
        have HX := hide hx
        have HRR := hide hrr
        have HB := hide hb
        have HO := hide ho
        have HAA := hide hA
        clear hc hA
        by_cases hjl : j < p.fs.length
        · have hq : RwS wr w.heap.size (clrP p (p.fs.take j)) := ho.1.2.1 _ (by simp)
          obtain ⟨bf, of, hF0, hbf, hcf⟩ := Rd.row (xs := p.fs) fixupC_len (by decide) hq.rd.2 hjl
          have hF : p.F = some ⟨bf, of, none⟩ := hF0
          clear hF0
          have hfx := HFP.out.2.2 _ (List.getElem_mem hjl)
          have HTF := hide (show clrP p (p.fs.take (j + 1)) = { clrP p (p.fs.take j) with zs := setz (clrs p.zs (p.fs.take j)) (p.fs[j].1.toNat) (wide p.fs[j].2.1).toNat } by rw [take_succ hjl]; simp only [clrP, clrs_snoc]; rfl)
          have hzl48 := HFP.out.2.1
          generalize p.fs[j] = f at *
          obtain ⟨f0, f1, f2, f3⟩ := f
          simp only at hcf hfx
          obtain ⟨i0, hi1, hi2⟩ := hfx
          obtain ⟨a, rfl⟩ := Int.eq_ofNat_of_zero_le i0
          have hwd := wide_bd f1
          have HFW := hide (fun V => fixupWideS_any f1 V)
          obtain ⟨wd, hwd'⟩ := Int.eq_ofNat_of_zero_le hwd.1
          rw [hwd'] at HFW hi1 hi2
          rw [hwd'] at HTF
          simp only [Int.toNat_natCast] at HTF
          have hwd4 : wd ≤ 4 := by omega
          have hwd0 : 0 < wd := by omega
          have hsum : a + wd ≤ p.zs.length := by omega
          have hc0 := hcf 0 _ rfl
          have hc1 := hcf 1 _ rfl
          have hc2 := hcf 2 _ rfl
          have hc3' := hcf 3 _ rfl
          simp only [Nat.add_zero] at hc0
          rw [hF] at hc5
          clear ho hx hrr hb hq hcf hwd
          go_wp2_with fail
          have B1 : Below wr.heap.size wr (wr.alloc (.cells #[.int .i64 a, .int .i64 f1, .int .i64 f2, .int .i64 f3] 77)) := (by repeat (first | exact Below.refl _ _ | with_reducible assumption | (refine Below.drew ?_) | (refine Below.drewN ?_ _) | (refine Below.alloc ?_ (by simp; try omega) _) | (refine Below.setCell ?_ (by simp; try omega) _)))
          have HZ1 := hide (Box.new wr 77 #[.int .i64 a, .int .i64 f1, .int .i64 f2, .int .i64 f3])
          have HX1 := hide (HX.out.call B1)
          have HRR1 := hide (HRR.out.call B1)
          have HO1 := hide (HO.out.call B1)
          have HB1 := hide (HB.out.trans (B1.mono HB.out.size))
          clear B1 HX HRR HO HB hc0 hc1 hc2 hc3 hc3' hc5 x0 hxl hF
          generalize wr.alloc (.cells #[.int .i64 a, .int .i64 f1, .int .i64 f2, .int .i64 f3] 77) = wz at *
          generalize wr.heap.size = Z at *
          go_wp2_with fail
          go_loopw [7] (fun i wi => ∃ (m : Nat), m ≤ wd ∧ i = .int .i64 m ∧ OwnO wi w.heap.size ⟨A, c, l1 ++ { clrP p (p.fs.take j) with zs := setz (clrs p.zs (p.fs.take j)) a m } :: l2, Y, yc, ys⟩ ∧ Box wi Z 77 #[.int .i64 a, .int .i64 f1, .int .i64 f2, .int .i64 f3] ∧ Box wi X 26 #[.slice A ps.length c, .slice Y ys.length yc] ∧ Box wi R 26 #[.slice none 0 0, .slice none 0 0] ∧ Below w.heap.size w wi) (fun i _ => wd - (intOf i).toNat)
          case atStart => exact ⟨0, Nat.zero_le _, rfl, HO1.out, HZ1.out, HX1.out, HRR1.out, HB1.out⟩
          case round =>
            clear HO1 HZ1 HX1 HRR1 HB1
            obtain ⟨m, hm, rfl, ho, hz, hx, hrr, hb⟩ := hrel
            have HO := hide ho
            have HZ := hide hz
            have HX := hide hx
            have HRR := hide hrr
            have HB := hide hb
            have z1 := hz.cell 1
            simp only [List.getElem?_toArray, List.getElem?_cons_zero, List.getElem?_cons_succ] at z1
            have hzl := hz.lt
            clear ho hz hx hrr hb
            go_wp2_with fail
            refine (HFW.out _).mono ?_
            rintro e w5 ⟨rfl, b5⟩
            have HO5 := hide (HO.out.call b5)
            have HZ5 := hide (HZ.out.call b5)
            have HX5 := hide (HX.out.call b5)
            have HRR5 := hide (HRR.out.call b5)
            have HB5 := hide (HB.out.trans (b5.mono HB.out.size))
            clear b5 HO HZ HX HRR HB z1 hzl
            by_cases hml : m < wd
            · go_wp2_with fail
              obtain ⟨b, hA0, hbb, hbg, hc⟩ := row_own HO5.out.1
              have hA : A = some ⟨b, 0, none⟩ := hA0
              clear hA0
              rw [HTK.out.2] at hc
              have hc3 := hc 3 _ rfl
              simp only [setz_len, clrP, clrs_len] at hc3
              have hq := HO5.out.1.2.1 { clrP p (p.fs.take j) with zs := setz (clrs p.zs (p.fs.take j)) a m } (by simp)
              obtain ⟨g, hAg0, hbg2, hgl, hblk, hown⟩ := own_of hq.1 (by simp only [setz_len, clrP, clrs_len]; omega)
              have hAg : p.A = some ⟨g, 0, none⟩ := hAg0
              clear hAg0
              obtain ⟨g', hg', hcg, _⟩ := hq.1.at1 (i := a + m) (by simp only [setz_len, clrP, clrs_len]; omega)
              have e := hAg.symm.trans hg'
              simp only [Option.some.injEq, Addr.mk.injEq, and_true] at e
              subst e
              have hfz := hown.frozenAt (a + m)
              have HNE := hide (And.intro (hq.1.box HZ5.out (by decide) g hblk) (And.intro (hq.1.box HX5.out (by decide) g hblk) (And.intro (hq.1.box HRR5.out (by decide) g hblk) (show g ≠ b from fun e => apartT hq.1 HO5.out.1.1 (by decide) g hblk (by rw [e]; exact hbb)))))
              have HAG := hide hAg
              have HGB := hide hbg2
              have HAA := hide hA
              have z0 := HZ5.out.cell 0
              have x0 := HX5.out.cell 0
              simp only [List.getElem?_toArray, List.getElem?_cons_zero, List.getElem?_cons_succ] at z0 x0
              rw [hA] at x0
              rw [hAg] at hc3
              clear hq hown hblk hbb hc hbg2 hA hAg hg'
              have hzl := HZ5.out.lt
              have hxl := HX5.out.lt
              have hw1 : IntKind.i64.wrap ((a : Int) + m) = (a : Int) + m := IntWalk.i64_in _ (by omega)
              have ham : a + m < p.zs.length := by omega
              have ht : ((a : Int) + m).toNat = a + m := by omega
              have hq1 : (0 : Int) ≤ (a : Int) + m := by omega
              have hq2 : (a : Int) + m < p.zs.length := by omega
              have Z0 : w5.cell? ⟨X, 0, none⟩ = some (.slice (some ⟨b, 0, none⟩) ps.length c) ∧ w5.cell? ⟨b, k * 6 + 3, none⟩ = some (.slice (some ⟨g, 0, none⟩) p.zs.length p.c) ∧ w5.cell? ⟨Z, 0, none⟩ = some (.int .i64 a) := ⟨x0, hc3, z0⟩
              refine Reg.startT (fun W => W.cell? ⟨X, 0, none⟩ = some (.slice (some ⟨b, 0, none⟩) ps.length c) ∧ W.cell? ⟨b, k * 6 + 3, none⟩ = some (.slice (some ⟨g, 0, none⟩) p.zs.length p.c) ∧ W.cell? ⟨Z, 0, none⟩ = some (.int .i64 a)) (fun _ => false) (by kernel_rfl) ?_
              have hHeld : w5.drew.cell? ⟨X, 0, none⟩ = some (.slice (some ⟨b, 0, none⟩) ps.length c) ∧ w5.drew.cell? ⟨b, k * 6 + 3, none⟩ = some (.slice (some ⟨g, 0, none⟩) p.zs.length p.c) ∧ w5.drew.cell? ⟨Z, 0, none⟩ = some (.int .i64 a) := Z0
              clear z0 x0 hc3
              refine Reg.takeT (i := 0) (v := ?_) rfl (by kernel_rfl) (by kernel_rfl) (by kernel_rfl) (by kernel_rfl) (fun _ _ _ h => h) (Or.inl ⟨by rfl, ?_⟩) (by assumption) ?_
              rotate_left 1
              focus (intro w hSw; (try dsimp only at hSw); go_simp; (try with_reducible rfl))
              try simp only [List.getElem_toArray, List.getElem_cons_succ, List.getElem_cons_zero, Act.put, List.setIfInBounds_toArray, List.set_cons_zero, List.set_cons_succ]
              refine Reg.takeT (i := 1) (v := ?_) rfl (by kernel_rfl) (by kernel_rfl) (by kernel_rfl) (by kernel_rfl) (fun _ _ _ h => h) (Or.inl ⟨by rfl, ?_⟩) (by assumption) ?_
              rotate_left 1
              focus (intro w hSw; (try dsimp only at hSw); go_simp; (try with_reducible rfl))
              try simp only [List.getElem_toArray, List.getElem_cons_succ, List.getElem_cons_zero, Act.put, List.setIfInBounds_toArray, List.set_cons_zero, List.set_cons_succ]
              refine Reg.takeT (i := 2) (v := ?_) rfl (by kernel_rfl) (by kernel_rfl) (by kernel_rfl) (by kernel_rfl) (fun _ _ _ h => h) (Or.inl ⟨by rfl, ?_⟩) (by assumption) ?_
              rotate_left 1
              focus (intro w hSw; (try dsimp only at hSw); go_simp; (try with_reducible rfl))
              try simp only [List.getElem_toArray, List.getElem_cons_succ, List.getElem_cons_zero, Act.put, List.setIfInBounds_toArray, List.set_cons_zero, List.set_cons_succ]
              refine Reg.takeT (i := 3) (v := ?_) rfl (by kernel_rfl) (by kernel_rfl) (by kernel_rfl) (by kernel_rfl) (fun _ _ _ h => h) (Or.inl ⟨by rfl, ?_⟩) (by assumption) ?_
              rotate_left 1
              focus (intro w hSw; (try dsimp only at hSw); go_simp; (try with_reducible rfl))
              try simp only [List.getElem_toArray, List.getElem_cons_succ, List.getElem_cons_zero, Act.put, List.setIfInBounds_toArray, List.set_cons_zero, List.set_cons_succ]
              refine Reg.takeT (i := 4) (v := ?_) rfl (by kernel_rfl) (by kernel_rfl) (by kernel_rfl) (by kernel_rfl) (fun _ _ _ h => h) (Or.inl ⟨by rfl, ?_⟩) (by assumption) ?_
              rotate_left 1
              focus (intro w hSw; (try dsimp only at hSw); go_simp; (try with_reducible rfl))
              try simp only [List.getElem_toArray, List.getElem_cons_succ, List.getElem_cons_zero, Act.put, List.setIfInBounds_toArray, List.set_cons_zero, List.set_cons_succ]
              refine Reg.takeT (i := 5) (v := ?_) rfl (by kernel_rfl) (by kernel_rfl) (by kernel_rfl) (by kernel_rfl) (fun _ _ _ h => h) (Or.inl ⟨by rfl, ?_⟩) (by assumption) ?_
              rotate_left 1
              focus (intro w hSw; (try dsimp only at hSw); go_simp; (try with_reducible rfl))
              try simp only [List.getElem_toArray, List.getElem_cons_succ, List.getElem_cons_zero, Act.put, List.setIfInBounds_toArray, List.set_cons_zero, List.set_cons_succ]
              refine Reg.takeT (i := 6) (v := ?_) rfl (by kernel_rfl) (by kernel_rfl) (by kernel_rfl) (by kernel_rfl) (fun _ _ _ h => h) (Or.inl ⟨by rfl, ?_⟩) (by assumption) ?_
              rotate_left 1
              focus (intro w hSw; (try dsimp only at hSw); go_simp; (try with_reducible rfl))
              try simp only [List.getElem_toArray, List.getElem_cons_succ, List.getElem_cons_zero, Act.put, List.setIfInBounds_toArray, List.set_cons_zero, List.set_cons_succ]
              refine Reg.takeT (i := 7) (v := ?_) rfl (by kernel_rfl) (by kernel_rfl) (by kernel_rfl) (by kernel_rfl) (fun _ _ _ h => h) (Or.inl ⟨by rfl, ?_⟩) (by assumption) ?_
              rotate_left 1
              focus (intro w hSw; (try dsimp only at hSw); go_simp; (try with_reducible rfl))
              try simp only [List.getElem_toArray, List.getElem_cons_succ, List.getElem_cons_zero, Act.put, List.setIfInBounds_toArray, List.set_cons_zero, List.set_cons_succ]
              refine Reg.takeT (i := 8) (v := ?_) rfl (by kernel_rfl) (by kernel_rfl) (by kernel_rfl) (by kernel_rfl) (fun _ _ _ h => h) (Or.inl ⟨by rfl, ?_⟩) (by assumption) ?_
              rotate_left 1
              focus (intro w hSw; (try dsimp only at hSw); go_simp; (try with_reducible rfl))
              try simp only [List.getElem_toArray, List.getElem_cons_succ, List.getElem_cons_zero, Act.put, List.setIfInBounds_toArray, List.set_cons_zero, List.set_cons_succ]
              refine Reg.takeT (i := 9) (v := ?_) rfl (by kernel_rfl) (by kernel_rfl) (by kernel_rfl) (by kernel_rfl) (fun _ _ _ h => h) (Or.inl ⟨by rfl, ?_⟩) (by assumption) ?_
              rotate_left 1
              focus (intro w hSw; (try dsimp only at hSw); go_simp; (try with_reducible rfl))
              try simp only [List.getElem_toArray, List.getElem_cons_succ, List.getElem_cons_zero, Act.put, List.setIfInBounds_toArray, List.set_cons_zero, List.set_cons_succ]
              refine Reg.takeT (i := 10) (v := ?_) rfl (by kernel_rfl) (by kernel_rfl) (by kernel_rfl) (by kernel_rfl) (fun _ _ _ h => h) (Or.inl ⟨by rfl, ?_⟩) (by assumption) ?_
              rotate_left 1
              focus (intro w hSw; (try dsimp only at hSw); go_simp; (try with_reducible rfl))
              try simp only [List.getElem_toArray, List.getElem_cons_succ, List.getElem_cons_zero, Act.put, List.setIfInBounds_toArray, List.set_cons_zero, List.set_cons_succ]
              have hcg' : w5.drew.cell? ⟨g, a + m, none⟩ = some (.int .u8 ((setz (clrs p.zs (p.fs.take j)) a m).getD (a + m) 0)) := hcg
              have hfz' : w5.drew.frozen? ⟨g, a + m, none⟩ = false := hfz
              refine Reg.oneT (i := 11) rfl (by kernel_rfl) (fun K hK => ?_)
              go_simp
              clear hcg hcg' hfz hfz'
              have HO6 := hide (OwnO.storeB (q := { clrP p (p.fs.take j) with zs := setz (clrs p.zs (p.fs.take j)) a m }) (HO5.out.call (below_dr (Below.refl _ _))) HAG.out (a + m) (by simp only [setz_len, clrP, clrs_len]; omega) 0)
              have HZ6 := hide (HZ5.out.drew.far (p := ⟨g, a + m, none⟩) (Ne.symm HNE.out.1) (.int .u8 0))
              have HX6 := hide (HX5.out.drew.far (p := ⟨g, a + m, none⟩) (Ne.symm HNE.out.2.1) (.int .u8 0))
              have HRR6 := hide (HRR5.out.drew.far (p := ⟨g, a + m, none⟩) (Ne.symm HNE.out.2.2.1) (.int .u8 0))
              have HB6 := hide ((HB5.out.drew).setCell (p := ⟨g, a + m, none⟩) HGB.out (.int .u8 0))
              have hS : (w5.drew.setCell ⟨g, a + m, none⟩ (.int .u8 0)).cell? ⟨b, k * 6 + 3, none⟩ = some (.slice (some ⟨g, 0, none⟩) p.zs.length p.c) := (World.cell?_of_block (Below.heap_setCell w5.drew ⟨g, a + m, none⟩ (.int .u8 0) b (Ne.symm HNE.out.2.2.2))).trans hHeld.2.1
              clear Z0 hHeld HO5 HZ5 HX5 HRR5 HB5 hzl hxl HNE
              have ew : w5.drew.setCell ⟨g, a + m, none⟩ (.int .u8 0) = (w5.setCell ⟨g, a + m, none⟩ (.int .u8 0)).drew := rfl
              rw [ew] at HO6 HZ6 HX6 HRR6 HB6 hS
              clear ew
              generalize (w5.setCell ⟨g, a + m, none⟩ (.int .u8 0)).drew = w6 at *
              refine hK.out _ _ ⟨by rw [← HAA.out]; exact HX6.out.cell 0, hS, HZ6.out.cell 0⟩ ?_
              clear hK K hS
              try simp only [List.getElem_toArray, List.getElem_cons_succ, List.getElem_cons_zero, Act.put, List.setIfInBounds_toArray, List.set_cons_zero, List.set_cons_succ]
              refine Reg.doneT (by kernel_rfl) ?_ _
              go_wp2_with fail
              refine ⟨⟨m + 1, by omega, by go_num, HO6.out, HZ6.out, HX6.out, HRR6.out, HB6.out⟩, by simp [intOf]; omega⟩
            · have e : m = wd := by omega
              subst e
              rw [← HTF.out] at HO5
              go_wp2_with fail
              refine ⟨⟨j + 1, by omega, by go_num, HO5.out, HX5.out, HRR5.out, HB5.out⟩, by simp [intOf]; omega⟩
        · have e : clrP p (p.fs.take j) = clrA p := by rw [List.take_of_length_le (by omega)]; rfl
          rw [e] at HO
          clear ho hx hrr hb e
          go_wp2_with fail
          refine ⟨⟨k + 1, by omega, by go_num, by rw [HTK.out.1, HL2.out, List.append_assoc]; exact HO.out, HX.out, HRR.out, HB.out⟩, by simp [intOf]; omega⟩
    · have e : (ps.take k).map clrA ++ ps.drop k = ps.map clrA := by rw [List.take_of_length_le (by omega), List.drop_of_length_le (by omega), List.append_nil]
      rw [e] at ho
      have HFIN := hide (CObject.ret_object ho hb (by
        rintro j ((hj | ⟨x, hx', hj⟩) | hj)
        · exact ho.1.1.box hrr (by decide) j hj
        · exact (ho.1.2.1 x hx').box hrr (by decide) (by decide) j hj
        · exact ho.2.box hrr (by decide) j hj) (Nat.le_of_lt hVR))
      have y0 := hrr.cell 0
      have y1 := hrr.cell 1
      have yf0 := hrr.frozen 0
      have yf1 := hrr.frozen 1
      have hrl := hrr.lt
      have x0 := hx.cell 0
      have x1 := hx.cell 1
      have hxl := hx.lt
      simp only [List.getElem?_toArray, List.getElem?_cons_zero, List.getElem?_cons_succ] at y0 y1 x0 x1
      have kk := (HRR.out.set 0 (.slice A ps.length c)).set 1 (.slice Y ys.length yc)
      have k0 := kk.cell 0
      have k1 := kk.cell 1
      simp only [List.setIfInBounds_toArray, List.set_cons_zero, List.set_cons_succ, List.getElem?_toArray, List.getElem?_cons_zero, List.getElem?_cons_succ] at k0 k1
      clear kk ho hx hrr hb e
      go_wp2_with fail
      refine bodyPost_ret (v := OV.v ⟨A, c, ps.map clrA, Y, yc, ys⟩) (by simp [results, Try.results23, go_sem, OV.v, k0, k1]) rfl ?_
      rw [HDD.out]
      have h := HFIN.out
      simp only [List.length_map] at h
      exact h
end Go.Proofs.Ytmglgjchemecjaa.CClearS
/- The laws' question whether the program is there at all: it answers true. -/
namespace Go.Proofs.Ytmglgjchemecjaa.CAlive
set_option maxRecDepth 200000
open Go.ChangeShapes Go.WideShapes Go.ChangeAt Go.RowKit Kit CCode
theorem isAlign4 (w : World) : Calls Try.prog 114 #[.int .i64 4] w (Pure (.bool true) w) := by
  go_enter Try.func114, Try.ntmps114
  go_wp2
  go_ret
  exact ⟨rfl, rfl⟩
theorem aligned54 (w : World) : Calls Try.prog 116 #[.int .i64 5, .int .i64 4] w (Pure (.int .i64 8) w) := by
  go_enter Try.func116, Try.ntmps116
  go_wp2
  go_ret
  exact ⟨rfl, rfl⟩
theorem alignUp54 (w : World) : Calls Try.prog 52 #[.int .i64 5, .int .i64 4] w (Pure (.int .i64 8) w) := by
  have hb : inB 5 0 1000000 = true := by decide
  go_enter Try.func52, Try.ntmps52
  go_wp2_with (first | (go_at_call 114; refine (isAlign4 _).mono ?_; rintro e w' ⟨rfl, rfl⟩) | (go_at_call 116; refine (aligned54 _).mono ?_; rintro e w' ⟨rfl, rfl⟩) | (first | (go_at_call 115; refine (within_any _ _ _ _).mono ?_; rintro e w' ⟨rfl, rfl⟩) | (go_at_call 110; refine (l1In_any _ _ _ _).mono ?_; rintro e w' ⟨rfl, rfl⟩) | fail))
  go_ret
  exact ⟨rfl, rfl⟩
theorem alive_any (w : World) : Calls Try.prog 15 #[] w (Pure (.bool true) w) := by
  go_enter Try.func15, Try.ntmps15
  go_wp2_with (go_at_call 52; refine (alignUp54 _).mono ?_; rintro e w' ⟨rfl, rfl⟩)
  go_ret
  exact ⟨rfl, rfl⟩
end Go.Proofs.Ytmglgjchemecjaa.CAlive
/- The walk of FnClearFixups. -/
namespace Go.Proofs.Ytmglgjchemecjaa.WFnClearFixups
set_option maxRecDepth 200000
open Go.ChangeShapes Go.WideShapes Go.ChangeAt Go.RowKit Kit CCode CFixups CSymbols PObj BObj PValid CObjValid PWarn PClear CClear DDrawB CCopyS CCopyI CAlive BList PLink PLinkL CLink CSameO
theorem linkOne_any (o : OV) (base : Int) (b : Nat) (w : World) (hc : Box w b 26 #[.slice o.A o.ps.length o.c, .slice o.Y o.ys.length o.yc]) (hr : RdO w w.heap.size o) (hf : Fit o) (hn : Nils o) :
    Calls Try.prog 30 #[.slice (some ⟨b, 0, none⟩) 1 1, .int .i64 base] w (RetL (linkR [o.d] base) w) := by
  refine link_any (some ⟨b, 0, none⟩) [o] 1 base w ⟨?_, fun x hx => ?_⟩ ⟨by simp, fun x hx => ?_⟩ (fun x hx p hp => ?_)
  · intro i u hi
    refine ⟨b, 0, rfl, hc.lt, ?_⟩
    rw [Nat.zero_add, hc.cell i]
    simpa [cellsOf, objC] using hi
  · rw [List.mem_singleton.1 hx]
    exact hr
  · rw [List.mem_singleton.1 hx]
    exact hf
  · rw [List.mem_singleton.1 hx] at hp
    exact (hn.2 p hp).1
theorem lim_bnd {o : OV} (h : Bnd o.d) : Lim o := by
  obtain ⟨h1, h2, h3, _⟩ := h
  simp only [OV.d, List.length_map] at h1 h2
  refine ⟨by omega, by omega, fun p hp => ?_⟩
  obtain ⟨_, a2, a3⟩ := h3 p.d (List.mem_map_of_mem hp)
  simp only [SV.d] at a2 a3
  omega
set_option maxHeartbeats 4000000 in
theorem walk (A : Option Addr) (zs : List Int) (c : Nat) (hl : zs.length ≤ c) (hc : c ≤ maxLen) (hz : InR 0 255 zs) (w : World) (hr : Rd w w.heap.size A (ints .u8 zs)) :
    Calls Try.prog 7 #[.slice A zs.length c] w (LawEnds w) := by
  have hcm := hc
  unfold maxLen at hcm
  have HD := hide (draw_DrawClearFixups hr hz hl hc)
  clear hr hz hc
  by_cases hbig : 1048576 < zs.length
  · go_enter Try.func7, Try.ntmps7
    go_wp2_with fail
    go_ret
    exact ⟨rfl, Below.refl _ _⟩
  go_enter Try.func7, Try.ntmps7
  go_wp2_with fail
  refine HD.out.mono ?_
  rintro e w1 ⟨d, hbd, o, rfl, hd, own1, b1⟩
  subst hd
  have HBD := hide hbd
  have HFT := hide (bnd_fit hbd own1).1
  have HNL := hide (nils_own own1)
  have HR := hide (own1.rd)
  have B1 : Below w1.heap.size w1 (w1.alloc (.cells #[.slice o.A o.ps.length o.c, .slice o.Y o.ys.length o.yc] 26)) := (by repeat (first | exact Below.refl _ _ | with_reducible assumption | (refine Below.drew ?_) | (refine Below.drewN ?_ _) | (refine Below.alloc ?_ (by simp; try omega) _) | (refine Below.setCell ?_ (by simp; try omega) _)))
  have HX := hide (Box.new w1 26 #[.slice o.A o.ps.length o.c, .slice o.Y o.ys.length o.yc])
  have HB := hide (b1.trans (B1.mono b1.size))
  replace HR := hide (HR.out.call B1)
  clear hbd own1 b1 B1 HD
  simp only [OV.v]
  have x0 := HX.out.cell 0
  have x1 := HX.out.cell 1
  simp only [List.getElem?_toArray, List.getElem?_cons_zero, List.getElem?_cons_succ] at x0 x1
  have hxl := HX.out.lt
  go_wp2_with fail
  generalize w1.alloc (.cells #[.slice o.A o.ps.length o.c, .slice o.Y o.ys.length o.yc] 26) = w2 at *
  generalize w1.heap.size = X at *
  refine (clearFixups_any o w2 HR.out HFT.out HNL.out).mono ?_
  rintro e w3 ⟨o2, rfl, hd2, own2, b3⟩
  have HD2 := hide hd2
  have HF2 := hide (bnd_fit (by rw [hd2]; exact bnd_clear HBD.out) own2).1
  have HN2 := hide (nils_own own2)
  have HR2 := hide own2.rd
  have HLM2 := hide (lim_bnd (by rw [hd2]; exact bnd_clear HBD.out))
  replace HR := hide (HR.out.call b3)
  replace HB := hide (HB.out.trans (b3.mono HB.out.size))
  replace HX := hide (HX.out.call b3)
  clear b3
  clear hd2 own2 x0 x1 hxl
  simp only [OV.v]
  have B4 : Below w3.heap.size w3 (w3.alloc (.cells #[.slice o2.A o2.ps.length o2.c, .slice o2.Y o2.ys.length o2.yc] 26)) := (by repeat (first | exact Below.refl _ _ | with_reducible assumption | (refine Below.drew ?_) | (refine Below.drewN ?_ _) | (refine Below.alloc ?_ (by simp; try omega) _) | (refine Below.setCell ?_ (by simp; try omega) _)))
  have HY := hide (Box.new w3 26 #[.slice o2.A o2.ps.length o2.c, .slice o2.Y o2.ys.length o2.yc])
  replace HR := hide (HR.out.call B4)
  replace HR2 := hide (HR2.out.call B4)
  replace HB := hide (HB.out.trans (B4.mono HB.out.size))
  replace HX := hide (HX.out.call B4)
  clear B4
  go_wp2_with fail
  generalize w3.alloc (.cells #[.slice o2.A o2.ps.length o2.c, .slice o2.Y o2.ys.length o2.yc] 26) = w4 at *
  generalize w3.heap.size = Y at *
  have x0 := HX.out.cell 0
  have x1 := HX.out.cell 1
  simp only [List.getElem?_toArray, List.getElem?_cons_zero, List.getElem?_cons_succ] at x0 x1
  have y0 := HY.out.cell 0
  have y1 := HY.out.cell 1
  simp only [List.getElem?_toArray, List.getElem?_cons_zero, List.getElem?_cons_succ] at y0 y1
  have Z0 : w4.cell? ⟨X, 0, none⟩ = some (.slice o.A o.ps.length o.c) ∧ w4.cell? ⟨X, 1, none⟩ = some (.slice o.Y o.ys.length o.yc) ∧ w4.cell? ⟨Y, 0, none⟩ = some (.slice o2.A o2.ps.length o2.c) ∧ w4.cell? ⟨Y, 1, none⟩ = some (.slice o2.Y o2.ys.length o2.yc) := ⟨x0, x1, y0, y1⟩
  refine Reg.startT (fun W => W.cell? ⟨X, 0, none⟩ = some (.slice o.A o.ps.length o.c) ∧ W.cell? ⟨X, 1, none⟩ = some (.slice o.Y o.ys.length o.yc) ∧ W.cell? ⟨Y, 0, none⟩ = some (.slice o2.A o2.ps.length o2.c) ∧ W.cell? ⟨Y, 1, none⟩ = some (.slice o2.Y o2.ys.length o2.yc)) (fun _ => false) (by kernel_rfl) ?_
  have hHeld : w4.drew.cell? ⟨X, 0, none⟩ = some (.slice o.A o.ps.length o.c) ∧ w4.drew.cell? ⟨X, 1, none⟩ = some (.slice o.Y o.ys.length o.yc) ∧ w4.drew.cell? ⟨Y, 0, none⟩ = some (.slice o2.A o2.ps.length o2.c) ∧ w4.drew.cell? ⟨Y, 1, none⟩ = some (.slice o2.Y o2.ys.length o2.yc) := Z0
  clear Z0 x0 x1 y0 y1
  refine Reg.takeT (i := 0) (v := ?_) rfl (by kernel_rfl) (by kernel_rfl) (by kernel_rfl) (by kernel_rfl) (fun _ _ _ h => h) (Or.inl ⟨by rfl, ?_⟩) (by assumption) ?_
  rotate_left 1
  focus (intro w hSw; (try dsimp only at hSw); go_simp; (try with_reducible rfl))
  try simp only [List.getElem_toArray, List.getElem_cons_succ, List.getElem_cons_zero, Act.put, List.setIfInBounds_toArray, List.set_cons_zero, List.set_cons_succ]
  refine Reg.takeT (i := 1) (v := ?_) rfl (by kernel_rfl) (by kernel_rfl) (by kernel_rfl) (by kernel_rfl) (fun _ _ _ h => h) (Or.inl ⟨by rfl, ?_⟩) (by assumption) ?_
  rotate_left 1
  focus (intro w hSw; (try dsimp only at hSw); go_simp; (try with_reducible rfl))
  try simp only [List.getElem_toArray, List.getElem_cons_succ, List.getElem_cons_zero, Act.put, List.setIfInBounds_toArray, List.set_cons_zero, List.set_cons_succ]
  have bd : Below w4.heap.size w4 w4.drew := below_dr (Below.refl _ _)
  replace HR := hide (HR.out.call bd)
  replace HR2 := hide (HR2.out.call bd)
  replace HB := hide (HB.out.trans (bd.mono HB.out.size))
  replace HX := hide (HX.out.call bd)
  replace HY := hide (HY.out.call bd)
  clear bd
  generalize w4.drew = w5 at *
  refine Reg.oneT (i := 2) rfl (by kernel_rfl) (fun K hK => ?_)
  go_simp
  refine (CClearS.clearFixupsS_any o w5 HR.out HFT.out HNL.out).mono ?_
  rintro e w6 ⟨o3, rfl, hd3, own3, b6⟩
  simp only [OV.v]
  have HD3 := hide (hd3.trans HD2.out.symm)
  have HR3 := hide own3.rd
  replace HR := hide (HR.out.call b6)
  replace HR2 := hide (HR2.out.call b6)
  replace HB := hide (HB.out.trans (b6.mono HB.out.size))
  replace HX := hide (HX.out.call b6)
  replace HY := hide (HY.out.call b6)
  clear b6
  clear hd3 own3 hHeld
  have x0 := HX.out.cell 0
  have x1 := HX.out.cell 1
  simp only [List.getElem?_toArray, List.getElem?_cons_zero, List.getElem?_cons_succ] at x0 x1
  have y0 := HY.out.cell 0
  have y1 := HY.out.cell 1
  simp only [List.getElem?_toArray, List.getElem?_cons_zero, List.getElem?_cons_succ] at y0 y1
  have hHeld : w6.cell? ⟨X, 0, none⟩ = some (.slice o.A o.ps.length o.c) ∧ w6.cell? ⟨X, 1, none⟩ = some (.slice o.Y o.ys.length o.yc) ∧ w6.cell? ⟨Y, 0, none⟩ = some (.slice o2.A o2.ps.length o2.c) ∧ w6.cell? ⟨Y, 1, none⟩ = some (.slice o2.Y o2.ys.length o2.yc) := ⟨x0, x1, y0, y1⟩
  clear x0 x1 y0 y1
  refine hK.out _ _ hHeld ?_
  clear hK K
  try simp only [List.getElem_toArray, List.getElem_cons_succ, List.getElem_cons_zero, Act.put, List.setIfInBounds_toArray, List.set_cons_zero, List.set_cons_succ]
  refine Reg.oneT (i := 3) rfl (by kernel_rfl) (fun K hK => ?_)
  go_simp
  refine (sameObject_same o2 o3 HD3.out w6 HR2.out HR3.out HLM2.out).mono ?_
  rintro e w7 ⟨rfl, b7⟩
  replace HR := hide (HR.out.call b7)
  replace HR2 := hide (HR2.out.call b7)
  replace HB := hide (HB.out.trans (b7.mono HB.out.size))
  replace HX := hide (HX.out.call b7)
  replace HY := hide (HY.out.call b7)
  clear b7
  clear hHeld HR3 HD3
  have x0 := HX.out.cell 0
  have x1 := HX.out.cell 1
  simp only [List.getElem?_toArray, List.getElem?_cons_zero, List.getElem?_cons_succ] at x0 x1
  have y0 := HY.out.cell 0
  have y1 := HY.out.cell 1
  simp only [List.getElem?_toArray, List.getElem?_cons_zero, List.getElem?_cons_succ] at y0 y1
  have hHeld : w7.cell? ⟨X, 0, none⟩ = some (.slice o.A o.ps.length o.c) ∧ w7.cell? ⟨X, 1, none⟩ = some (.slice o.Y o.ys.length o.yc) ∧ w7.cell? ⟨Y, 0, none⟩ = some (.slice o2.A o2.ps.length o2.c) ∧ w7.cell? ⟨Y, 1, none⟩ = some (.slice o2.Y o2.ys.length o2.yc) := ⟨x0, x1, y0, y1⟩
  clear x0 x1 y0 y1
  refine hK.out _ _ hHeld ?_
  clear hK K
  try simp only [List.getElem_toArray, List.getElem_cons_succ, List.getElem_cons_zero, Act.put, List.setIfInBounds_toArray, List.set_cons_zero, List.set_cons_succ]
  refine Reg.takeT (i := 4) (v := ?_) rfl (by kernel_rfl) (by kernel_rfl) (by kernel_rfl) (by kernel_rfl) (fun _ _ _ h => h) (Or.inl ⟨by rfl, ?_⟩) (by assumption) ?_
  rotate_left 1
  focus (intro w hSw; (try dsimp only at hSw); go_simp; (try with_reducible rfl))
  try simp only [List.getElem_toArray, List.getElem_cons_succ, List.getElem_cons_zero, Act.put, List.setIfInBounds_toArray, List.set_cons_zero, List.set_cons_succ]
  clear hHeld
  refine Reg.doneT (by kernel_rfl) ?_ _
  have x0 := HX.out.cell 0
  have x1 := HX.out.cell 1
  simp only [List.getElem?_toArray, List.getElem?_cons_zero, List.getElem?_cons_succ] at x0 x1
  have hxl := HX.out.lt
  go_wp2_with fail
  clear x0 x1 hxl
  refine (CObjValidS.objectValidS_any o w7 HR.out HFT.out).mono ?_
  rintro e w8 ⟨rfl, b8⟩
  replace HR := hide (HR.out.call b8)
  replace HR2 := hide (HR2.out.call b8)
  replace HB := hide (HB.out.trans (b8.mono HB.out.size))
  replace HX := hide (HX.out.call b8)
  replace HY := hide (HY.out.call b8)
  clear b8
  cases hok : objOk o.d
  · have hd0 : o2.d = ⟨[], []⟩ := HD2.out.trans (clear_bad hok)
    have e1 : o2.ps.length = 0 := by simpa [OV.d] using congrArg List.length (congrArg OD.ss hd0)
    have e2 : o2.ys.length = 0 := by simpa [OV.d] using congrArg List.length (congrArg OD.ys hd0)
    rw [e1, e2] at HY
    clear hok hd0 e1 e2
    have y0 := HY.out.cell 0
    have y1 := HY.out.cell 1
    simp only [List.getElem?_toArray, List.getElem?_cons_zero, List.getElem?_cons_succ] at y0 y1
    have hyl := HY.out.lt
    go_wp2_with fail
    refine (alive_any _).mono ?_
    rintro e w' ⟨rfl, rfl⟩
    go_wp2_with fail
    go_ret
    exact ⟨rfl, HB.out⟩
  have HLK := hide (show linkR [o2.d] 8 = linkR [o.d] 8 from by rw [HD2.out]; exact link_clear hok 8)
  have HOK2 := hide (show objOk o2.d = true from by rw [HD2.out, clear_is hok]; exact clear_objOk hok)
  clear hok
  have x0 := HX.out.cell 0
  have x1 := HX.out.cell 1
  simp only [List.getElem?_toArray, List.getElem?_cons_zero, List.getElem?_cons_succ] at x0 x1
  have hxl := HX.out.lt
  have B9 : Below w8.heap.size w8 (w8.alloc (.cells #[.slice o.A o.ps.length o.c, .slice o.Y o.ys.length o.yc] 26)) := (by repeat (first | exact Below.refl _ _ | with_reducible assumption | (refine Below.drew ?_) | (refine Below.drewN ?_ _) | (refine Below.alloc ?_ (by simp; try omega) _) | (refine Below.setCell ?_ (by simp; try omega) _)))
  have HC9 := hide (Box.new w8 26 #[.slice o.A o.ps.length o.c, .slice o.Y o.ys.length o.yc])
  go_wp2_with fail
  clear x0 x1 hxl
  replace HR := hide (HR.out.call B9)
  replace HR2 := hide (HR2.out.call B9)
  replace HB := hide (HB.out.trans (B9.mono HB.out.size))
  replace HX := hide (HX.out.call B9)
  replace HY := hide (HY.out.call B9)
  clear B9
  generalize w8.alloc (.cells #[.slice o.A o.ps.length o.c, .slice o.Y o.ys.length o.yc] 26) = w9 at *
  refine (linkOne_any o 8 w8.heap.size w9 HC9.out HR.out HFT.out HNL.out).mono ?_
  rintro e w10 ⟨A1, c1, rfl, r1, b10⟩
  replace HR := hide (HR.out.call b10)
  replace HR2 := hide (HR2.out.call b10)
  have HM1 := hide r1
  replace HB := hide (HB.out.trans (b10.mono HB.out.size))
  replace HX := hide (HX.out.call b10)
  replace HY := hide (HY.out.call b10)
  clear b10
  clear r1 HC9
  generalize hr1 : linkR [o.d] 8 = R1 at *
  clear hr1
  obtain ⟨ba1, im1, fa1⟩ := R1
  simp only
  have B11 : Below w10.heap.size w10 (w10.alloc (.cells #[.int .i64 ba1, .slice A1 im1.length c1] 48)) := (by repeat (first | exact Below.refl _ _ | with_reducible assumption | (refine Below.drew ?_) | (refine Below.drewN ?_ _) | (refine Below.alloc ?_ (by simp; try omega) _) | (refine Below.setCell ?_ (by simp; try omega) _)))
  have HI1 := hide (Box.new w10 48 #[.int .i64 ba1, .slice A1 im1.length c1])
  replace HR := hide (HR.out.call B11)
  replace HR2 := hide (HR2.out.call B11)
  have HM2 := hide (HM1.out.call B11)
  replace HB := hide (HB.out.trans (B11.mono HB.out.size))
  replace HX := hide (HX.out.call B11)
  replace HY := hide (HY.out.call B11)
  clear B11
  clear HM1
  have y0 := HY.out.cell 0
  have y1 := HY.out.cell 1
  simp only [List.getElem?_toArray, List.getElem?_cons_zero, List.getElem?_cons_succ] at y0 y1
  have hyl := HY.out.lt
  have B12 : Below (w10.alloc (.cells #[.int .i64 ba1, .slice A1 im1.length c1] 48)).heap.size (w10.alloc (.cells #[.int .i64 ba1, .slice A1 im1.length c1] 48)) ((w10.alloc (.cells #[.int .i64 ba1, .slice A1 im1.length c1] 48)).alloc (.cells #[.slice o2.A o2.ps.length o2.c, .slice o2.Y o2.ys.length o2.yc] 26)) := (by repeat (first | exact Below.refl _ _ | with_reducible assumption | (refine Below.drew ?_) | (refine Below.drewN ?_ _) | (refine Below.alloc ?_ (by simp; try omega) _) | (refine Below.setCell ?_ (by simp; try omega) _)))
  have HC12 := Box.new (w10.alloc (.cells #[.int .i64 ba1, .slice A1 im1.length c1] 48)) 26 #[.slice o2.A o2.ps.length o2.c, .slice o2.Y o2.ys.length o2.yc]
  simp only [World.size_alloc] at HC12
  have HC := hide HC12
  clear HC12
  go_wp2_with fail
  clear y0 y1 hyl
  replace HR := hide (HR.out.call B12)
  replace HR2 := hide (HR2.out.call B12)
  replace HM2 := hide (HM2.out.call B12)
  replace HB := hide (HB.out.trans (B12.mono HB.out.size))
  replace HX := hide (HX.out.call B12)
  replace HY := hide (HY.out.call B12)
  replace HI1 := hide (HI1.out.call B12)
  clear B12
  generalize (w10.alloc (.cells #[.int .i64 ba1, .slice A1 im1.length c1] 48)).alloc (.cells #[.slice o2.A o2.ps.length o2.c, .slice o2.Y o2.ys.length o2.yc] 26) = w12 at *
  refine (linkOne_any o2 8 (w10.heap.size + 1) w12 HC.out HR2.out HF2.out HN2.out).mono ?_
  rintro e w13 ⟨A2, c2, rfl, r2, b13⟩
  rw [HLK.out] at r2
  simp only [HLK.out]
  have HM3 := hide r2
  replace HR2 := hide (HR2.out.call b13)
  replace HM2 := hide (HM2.out.call b13)
  replace HB := hide (HB.out.trans (b13.mono HB.out.size))
  replace HX := hide (HX.out.call b13)
  replace HY := hide (HY.out.call b13)
  replace HI1 := hide (HI1.out.call b13)
  clear b13
  clear r2 HC HR HX
  generalize w10.heap.size = P1 at *
  have B14 : Below w13.heap.size w13 (w13.alloc (.cells #[.int .i64 ba1, .slice A2 im1.length c2] 48)) := (by repeat (first | exact Below.refl _ _ | with_reducible assumption | (refine Below.drew ?_) | (refine Below.drewN ?_ _) | (refine Below.alloc ?_ (by simp; try omega) _) | (refine Below.setCell ?_ (by simp; try omega) _)))
  have HI2 := hide (Box.new w13 48 #[.int .i64 ba1, .slice A2 im1.length c2])
  replace HR2 := hide (HR2.out.call B14)
  replace HM2 := hide (HM2.out.call B14)
  replace HM3 := hide (HM3.out.call B14)
  replace HB := hide (HB.out.trans (B14.mono HB.out.size))
  replace HY := hide (HY.out.call B14)
  replace HI1 := hide (HI1.out.call B14)
  clear B14
  have y0 := HY.out.cell 0
  have y1 := HY.out.cell 1
  simp only [List.getElem?_toArray, List.getElem?_cons_zero, List.getElem?_cons_succ] at y0 y1
  have hyl := HY.out.lt
  go_wp2_with fail
  clear y0 y1 hyl
  generalize w13.alloc (.cells #[.int .i64 ba1, .slice A2 im1.length c2] 48) = w14 at *
  generalize w13.heap.size = P2 at *
  refine (objectValid_any o2 w14 HR2.out HF2.out).mono ?_
  rintro e w15 ⟨rfl, b15⟩
  rw [HOK2.out]
  replace HM2 := hide (HM2.out.call b15)
  replace HM3 := hide (HM3.out.call b15)
  replace HB := hide (HB.out.trans (b15.mono HB.out.size))
  replace HI1 := hide (HI1.out.call b15)
  replace HI2 := hide (HI2.out.call b15)
  clear b15
  have x0 := HI1.out.cell 0
  have x1 := HI1.out.cell 1
  simp only [List.getElem?_toArray, List.getElem?_cons_zero, List.getElem?_cons_succ] at x0 x1
  have y0 := HI2.out.cell 0
  have y1 := HI2.out.cell 1
  simp only [List.getElem?_toArray, List.getElem?_cons_zero, List.getElem?_cons_succ] at y0 y1
  have hxl := HI1.out.lt
  have hyl := HI2.out.lt
  go_wp2_with fail
  clear x0 x1 y0 y1 hxl hyl
  refine (sameImage_same ba1 A1 A2 im1 c1 c2 w15 HM2.out.rd HM3.out.rd (Nat.le_trans HM2.out.cap.1 HM2.out.cap.2)).mono ?_
  rintro e w16 ⟨rfl, b16⟩
  replace HB := hide (HB.out.trans (b16.mono HB.out.size))
  clear b16
  go_wp2_with fail
  go_ret
  exact ⟨rfl, HB.out⟩
end Go.Proofs.Ytmglgjchemecjaa.WFnClearFixups
