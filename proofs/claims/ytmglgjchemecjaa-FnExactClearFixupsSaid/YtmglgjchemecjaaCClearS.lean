/- The reference's ClearFixups. -/
import Derived.Test.YtmglgjchemecjaaPClear
import Derived.Test.YtmglgjchemecjaaCObjValidS
namespace Go.Proofs.Ytmglgjchemecjaa.CClearS
set_option maxRecDepth 200000
open Go.ChangeShapes Go.WideShapes Go.ChangeAt Go.RowKit Kit CCode CFixups CSymbols PObj BObj CMarkRows PValid CSecValid CUses CCovers CObjValid CObjValidS PWarn CCopyS CCopyI BStore PClear
theorem row_own {w : World} {base c : Nat} {A : Option Addr} {l1 l2 : List SV} {q : SV} (h : OwnSs w base A c (l1 ++ q :: l2)) :
    ∃ b, A = some ⟨b, 0, none⟩ ∧ blk A c = some b ∧ b < w.heap.size ∧ ∀ j u, (secC q)[j]? = some u → w.cell? ⟨b, l1.length * 6 + j, none⟩ = some u := by
  obtain ⟨b, hA, _, hb, hk, _⟩ := own_of h.1 (by rw [List.length_append, List.length_cons]; omega)
  obtain ⟨b', off, hA', _, hc⟩ := row_at h.rd
  have e := hA.symm.trans hA'
  simp only [Option.some.injEq, Addr.mk.injEq, and_true] at e
  obtain ⟨rfl, rfl⟩ := e
  exact ⟨b, hA, hk, hb, fun j u hu => by have := hc j u hu; rwa [Nat.zero_add] at this⟩
set_option maxHeartbeats 4000000 in
theorem clearFixupsS_any (o : OV) (w : World) (hr : RdO w w.heap.size o) (hf : Fit o) (hn : Nils o) :
    Calls Try.prog 23 #[.agg #[.slice o.A o.ps.length o.c, .slice o.Y o.ys.length o.yc]] w (RetO (clearD o.d) w) := by
  have HR := hide hr
  have HF := hide hf
  have HN := hide hn
  clear hr hf hn
  have B0 : Below w.heap.size w ((w.alloc (.cells #[.slice o.A o.ps.length o.c, .slice o.Y o.ys.length o.yc] 26)).alloc (.cells #[.slice none 0 0, .slice none 0 0] 26)) := (by repeat (first | exact Below.refl _ _ | with_reducible assumption | (refine Below.drew ?_) | (refine Below.drewN ?_ _) | (refine Below.alloc ?_ (by simp; try omega) _) | (refine Below.setCell ?_ (by simp; try omega) _)))
  have HV0 := hide ((Box.new w 26 #[.slice o.A o.ps.length o.c, .slice o.Y o.ys.length o.yc]).alloc (.cells #[.slice none 0 0, .slice none 0 0] 26))
  have HR0 := (Box.new (w.alloc (.cells #[.slice o.A o.ps.length o.c, .slice o.Y o.ys.length o.yc] 26)) 26 #[.slice none 0 0, .slice none 0 0])
  simp only [World.size_alloc] at HR0
  have HRR0 := hide HR0
  clear HR0
  have HB0 := hide B0
  clear B0
  go_enter Try.func23, Try.ntmps23
  go_wp2_with fail
  generalize (w.alloc (.cells #[.slice o.A o.ps.length o.c, .slice o.Y o.ys.length o.yc] 26)).alloc (.cells #[.slice none 0 0, .slice none 0 0] 26) = w0 at *
  have hVR : w.heap.size < w.heap.size + 1 := by omega
  generalize w.heap.size + 1 = R at *
  refine (objectValidS_any o w0 ((HR.out.below HB0.out).more HB0.out.size) HF.out).mono ?_
  rintro e w1 ⟨rfl, b1⟩
  have HV := hide (HV0.out.call b1)
  have HRR := hide (HRR0.out.call b1)
  have HB := hide (HB0.out.trans (b1.mono HB0.out.size))
  clear b1 HV0 HRR0 HB0
  cases hok : objOk o.d
  · have HVD := hide (clear_bad hok)
    have y0 := HRR.out.cell 0
    have y1 := HRR.out.cell 1
    have yf0 := HRR.out.frozen 0
    have yf1 := HRR.out.frozen 1
    simp only [List.getElem?_toArray, List.getElem?_cons_zero, List.getElem?_cons_succ] at y0 y1
    have hrl := HRR.out.lt
    have HFIN := hide (CObject.ret_object (w := w) (w1 := w1) (Y := R) (o := ⟨none, 0, [], none, 0, []⟩) ⟨⟨Row.empty _ _ _ _ _, (fun p hp => by cases hp), List.Pairwise.nil⟩, Row.empty _ _ _ _ _⟩ HB.out (by rintro k ((hk | ⟨p, hp, hk⟩) | hk) <;> first | (exact absurd hp List.not_mem_nil) | cases hk) (Nat.le_of_lt hVR))
    have kk := (HRR.out.set 0 (.slice none 0 0)).set 1 (.slice none 0 0)
    have k0 := kk.cell 0
    have k1 := kk.cell 1
    simp only [List.setIfInBounds_toArray, List.set_cons_zero, List.set_cons_succ, List.getElem?_toArray, List.getElem?_cons_zero, List.getElem?_cons_succ] at k0 k1
    clear kk hok
    go_wp2_with fail
    exact bodyPost_ret (v := OV.v ⟨none, 0, [], none, 0, []⟩) (by simp [results, Try.results23, go_sem, OV.v, k0, k1]) rfl (by rw [HVD.out]; exact HFIN.out)
  have hall := obj_all hok
  have HOK := hide hok
  have x0 := HV.out.cell 0
  have x1 := HV.out.cell 1
  simp only [List.getElem?_toArray, List.getElem?_cons_zero, List.getElem?_cons_succ] at x0 x1
  have hvl := HV.out.lt
  have HAL := hide hall
  have HS2 := hide (show o.ps.length ≤ 100 ∧ o.ys.length ≤ 100 from by
    have h1 := hall.1
    have h2 := hall.2.1
    simp only [OV.d, List.length_map] at h1 h2
    omega)
  clear hall hok
  go_wp2_with fail
  refine (l4Copy_any o w1 ((HR.out.below HB.out).more HB.out.size) HF.out HN.out HS2.out).mono ?_
  rintro e w2 ⟨⟨A, c, ps, Y, yc, ys⟩, rfl, hd, hown, b2⟩
  have HB2 := hide (HB.out.trans (b2.mono HB.out.size))
  have HRR2 := hide (HRR.out.call b2)
  have HO2 := hide (hown.down HB.out.size)
  have HDD := hide (show clearD o.d = ⟨(ps.map clrA).map SV.d, ys⟩ by rw [← hd]; exact clear_ok (by have := HOK.out; rw [← hd] at this; exact this))
  have hal := HAL.out
  rw [← hd] at hal
  have hpl : ps.length ≤ 8 := by simpa [OV.d] using hal.1
  have HFX := hide (show ∀ p ∈ ps, p.fs.length ≤ 6 ∧ p.zs.length ≤ 48 ∧ FxOk p from fun p hp => by
    have h := hal.2.2 p.d (List.mem_map_of_mem hp)
    exact ⟨h.1, h.2.1, fun f hf => (h.2.2 f hf).1⟩)
  clear hd hown b2 hal HAL HS2 HV HB HRR x0 x1 hvl HOK HR HF HN
  simp only [OV.v]
  go_wp2_with fail
  have HX3 := hide (Box.new w2 26 #[.slice A ps.length c, .slice Y ys.length yc])
  have HO3 := hide (HO2.out.call ((Below.refl _ _).alloc (Nat.le_refl _) (.cells #[.slice A ps.length c, .slice Y ys.length yc] 26)))
  have HB3 := hide (HB2.out.alloc HB2.out.size (.cells #[.slice A ps.length c, .slice Y ys.length yc] 26))
  have HRR3 := hide (HRR2.out.alloc (.cells #[.slice A ps.length c, .slice Y ys.length yc] 26))
  have hRX : R < w2.heap.size := HRR2.out.lt
  clear HB2 HRR2 HO2
  generalize w2.alloc (.cells #[.slice A ps.length c, .slice Y ys.length yc] 26) = w3 at *
  generalize w2.heap.size = X at *
  go_wp2_with fail
  go_loopw [4] (fun i wi => ∃ (k : Nat), k ≤ ps.length ∧ i = .int .i64 k ∧ OwnO wi w.heap.size ⟨A, c, (ps.take k).map clrA ++ ps.drop k, Y, yc, ys⟩ ∧ Box wi X 26 #[.slice A ps.length c, .slice Y ys.length yc] ∧ Box wi R 26 #[.slice none 0 0, .slice none 0 0] ∧ Below w.heap.size w wi) (fun i _ => ps.length - (intOf i).toNat)
  case atStart => exact ⟨0, Nat.zero_le _, rfl, by simpa using HO3.out, HX3.out, HRR3.out, HB3.out⟩
  case round =>
    clear HX3 HO3 HB3 HRR3
    obtain ⟨k, hk, rfl, ho, hx, hrr, hb⟩ := hrel
    have HX := hide hx
    have HRR := hide hrr
    have HB := hide hb
    by_cases hlt : k < ps.length
    · have hdr : ps.drop k = ps[k] :: ps.drop (k + 1) := List.drop_eq_getElem_cons hlt
      rw [hdr] at ho
      have htk : (ps.take (k + 1)).map clrA = (ps.take k).map clrA ++ [clrA ps[k]] := by rw [take_succ hlt, List.map_append]; rfl
      have hl1 : ((ps.take k).map clrA).length = k := by simp; omega
      have HFP := hide (HFX.out _ (List.getElem_mem hlt))
      have HTK := hide (And.intro htk hl1)
      have HO := hide ho
      have x0 := hx.cell 0
      simp only [List.getElem?_toArray, List.getElem?_cons_zero, List.getElem?_cons_succ] at x0
      have hxl := hx.lt
      clear ho hx hrr hb htk hl1 hdr
      generalize (ps.take k).map clrA = l1 at *
      generalize ps[k] = p at *
      generalize hl2 : ps.drop (k + 1) = l2 at *
      have HL2 := hide hl2
      clear hl2
      have hfl := HFP.out.1
      go_wp2_with fail
      clear x0 hxl
      go_loopw [5] (fun i wi => ∃ (j : Nat), j ≤ p.fs.length ∧ i = .int .i64 j ∧ OwnO wi w.heap.size ⟨A, c, l1 ++ clrP p (p.fs.take j) :: l2, Y, yc, ys⟩ ∧ Box wi X 26 #[.slice A ps.length c, .slice Y ys.length yc] ∧ Box wi R 26 #[.slice none 0 0, .slice none 0 0] ∧ Below w.heap.size w wi) (fun i _ => p.fs.length - (intOf i).toNat)
      case atStart => exact ⟨0, Nat.zero_le _, rfl, HO.out, HX.out, HRR.out, HB.out⟩
      case round =>
        clear HO HX HRR HB
        obtain ⟨j, hj, rfl, ho, hx, hrr, hb⟩ := hrel
        obtain ⟨b, hA0, _, hbg, hc⟩ := row_own ho.1
        have hA : A = some ⟨b, 0, none⟩ := hA0
        clear hA0
        rw [HTK.out.2, clrP_cells] at hc
        have x0 := hx.cell 0
        simp only [List.getElem?_toArray, List.getElem?_cons_zero, List.getElem?_cons_succ] at x0
        rw [hA] at x0
        have hxl := hx.lt
        have hc3 := hc 3 _ rfl
        have hc5 := hc 5 _ rfl
        have HX := hide hx
        have HRR := hide hrr
        have HB := hide hb
        have HO := hide ho
        have HAA := hide hA
        clear hc hA
        by_cases hjl : j < p.fs.length
        · have hq : RwS wr w.heap.size (clrP p (p.fs.take j)) := ho.1.2.1 _ (by simp)
          obtain ⟨bf, of, hF0, hbf, hcf⟩ := Rd.row (xs := p.fs) fixupC_len (by decide) hq.rd.2 hjl
          have hF : p.F = some ⟨bf, of, none⟩ := hF0
          clear hF0
          have hfx := HFP.out.2.2 _ (List.getElem_mem hjl)
          have HTF := hide (show clrP p (p.fs.take (j + 1)) = { clrP p (p.fs.take j) with zs := setz (clrs p.zs (p.fs.take j)) (p.fs[j].1.toNat) (wide p.fs[j].2.1).toNat } by rw [take_succ hjl]; simp only [clrP, clrs_snoc]; rfl)
          have hzl48 := HFP.out.2.1
          generalize p.fs[j] = f at *
          obtain ⟨f0, f1, f2, f3⟩ := f
          simp only at hcf hfx
          obtain ⟨i0, hi1, hi2⟩ := hfx
          obtain ⟨a, rfl⟩ := Int.eq_ofNat_of_zero_le i0
          have hwd := wide_bd f1
          have HFW := hide (fun V => fixupWideS_any f1 V)
          obtain ⟨wd, hwd'⟩ := Int.eq_ofNat_of_zero_le hwd.1
          rw [hwd'] at HFW hi1 hi2
          rw [hwd'] at HTF
          simp only [Int.toNat_natCast] at HTF
          have hwd4 : wd ≤ 4 := by omega
          have hwd0 : 0 < wd := by omega
          have hsum : a + wd ≤ p.zs.length := by omega
          have hc0 := hcf 0 _ rfl
          have hc1 := hcf 1 _ rfl
          have hc2 := hcf 2 _ rfl
          have hc3' := hcf 3 _ rfl
          simp only [Nat.add_zero] at hc0
          rw [hF] at hc5
          clear ho hx hrr hb hq hcf hwd
          go_wp2_with fail
          have B1 : Below wr.heap.size wr (wr.alloc (.cells #[.int .i64 a, .int .i64 f1, .int .i64 f2, .int .i64 f3] 77)) := (by repeat (first | exact Below.refl _ _ | with_reducible assumption | (refine Below.drew ?_) | (refine Below.drewN ?_ _) | (refine Below.alloc ?_ (by simp; try omega) _) | (refine Below.setCell ?_ (by simp; try omega) _)))
          have HZ1 := hide (Box.new wr 77 #[.int .i64 a, .int .i64 f1, .int .i64 f2, .int .i64 f3])
          have HX1 := hide (HX.out.call B1)
          have HRR1 := hide (HRR.out.call B1)
          have HO1 := hide (HO.out.call B1)
          have HB1 := hide (HB.out.trans (B1.mono HB.out.size))
          clear B1 HX HRR HO HB hc0 hc1 hc2 hc3 hc3' hc5 x0 hxl hF
          generalize wr.alloc (.cells #[.int .i64 a, .int .i64 f1, .int .i64 f2, .int .i64 f3] 77) = wz at *
          generalize wr.heap.size = Z at *
          go_wp2_with fail
          go_loopw [7] (fun i wi => ∃ (m : Nat), m ≤ wd ∧ i = .int .i64 m ∧ OwnO wi w.heap.size ⟨A, c, l1 ++ { clrP p (p.fs.take j) with zs := setz (clrs p.zs (p.fs.take j)) a m } :: l2, Y, yc, ys⟩ ∧ Box wi Z 77 #[.int .i64 a, .int .i64 f1, .int .i64 f2, .int .i64 f3] ∧ Box wi X 26 #[.slice A ps.length c, .slice Y ys.length yc] ∧ Box wi R 26 #[.slice none 0 0, .slice none 0 0] ∧ Below w.heap.size w wi) (fun i _ => wd - (intOf i).toNat)
          case atStart => exact ⟨0, Nat.zero_le _, rfl, HO1.out, HZ1.out, HX1.out, HRR1.out, HB1.out⟩
          case round =>
            clear HO1 HZ1 HX1 HRR1 HB1
            obtain ⟨m, hm, rfl, ho, hz, hx, hrr, hb⟩ := hrel
            have HO := hide ho
            have HZ := hide hz
            have HX := hide hx
            have HRR := hide hrr
            have HB := hide hb
            have z1 := hz.cell 1
            simp only [List.getElem?_toArray, List.getElem?_cons_zero, List.getElem?_cons_succ] at z1
            have hzl := hz.lt
            clear ho hz hx hrr hb
            go_wp2_with fail
            refine (HFW.out _).mono ?_
            rintro e w5 ⟨rfl, b5⟩
            have HO5 := hide (HO.out.call b5)
            have HZ5 := hide (HZ.out.call b5)
            have HX5 := hide (HX.out.call b5)
            have HRR5 := hide (HRR.out.call b5)
            have HB5 := hide (HB.out.trans (b5.mono HB.out.size))
            clear b5 HO HZ HX HRR HB z1 hzl
            by_cases hml : m < wd
            · go_wp2_with fail
              obtain ⟨b, hA0, hbb, hbg, hc⟩ := row_own HO5.out.1
              have hA : A = some ⟨b, 0, none⟩ := hA0
              clear hA0
              rw [HTK.out.2] at hc
              have hc3 := hc 3 _ rfl
              simp only [setz_len, clrP, clrs_len] at hc3
              have hq := HO5.out.1.2.1 { clrP p (p.fs.take j) with zs := setz (clrs p.zs (p.fs.take j)) a m } (by simp)
              obtain ⟨g, hAg0, hbg2, hgl, hblk, hown⟩ := own_of hq.1 (by simp only [setz_len, clrP, clrs_len]; omega)
              have hAg : p.A = some ⟨g, 0, none⟩ := hAg0
              clear hAg0
              obtain ⟨g', hg', hcg, _⟩ := hq.1.at1 (i := a + m) (by simp only [setz_len, clrP, clrs_len]; omega)
              have e := hAg.symm.trans hg'
              simp only [Option.some.injEq, Addr.mk.injEq, and_true] at e
              subst e
              have hfz := hown.frozenAt (a + m)
              have HNE := hide (And.intro (hq.1.box HZ5.out (by decide) g hblk) (And.intro (hq.1.box HX5.out (by decide) g hblk) (And.intro (hq.1.box HRR5.out (by decide) g hblk) (show g ≠ b from fun e => apartT hq.1 HO5.out.1.1 (by decide) g hblk (by rw [e]; exact hbb)))))
              have HAG := hide hAg
              have HGB := hide hbg2
              have HAA := hide hA
              have z0 := HZ5.out.cell 0
              have x0 := HX5.out.cell 0
              simp only [List.getElem?_toArray, List.getElem?_cons_zero, List.getElem?_cons_succ] at z0 x0
              rw [hA] at x0
              rw [hAg] at hc3
              clear hq hown hblk hbb hc hbg2 hA hAg hg'
              have hzl := HZ5.out.lt
              have hxl := HX5.out.lt
              have hw1 : IntKind.i64.wrap ((a : Int) + m) = (a : Int) + m := IntWalk.i64_in _ (by omega)
              have ham : a + m < p.zs.length := by omega
              have ht : ((a : Int) + m).toNat = a + m := by omega
              have hq1 : (0 : Int) ≤ (a : Int) + m := by omega
              have hq2 : (a : Int) + m < p.zs.length := by omega
              have Z0 : w5.cell? ⟨X, 0, none⟩ = some (.slice (some ⟨b, 0, none⟩) ps.length c) ∧ w5.cell? ⟨b, k * 6 + 3, none⟩ = some (.slice (some ⟨g, 0, none⟩) p.zs.length p.c) ∧ w5.cell? ⟨Z, 0, none⟩ = some (.int .i64 a) := ⟨x0, hc3, z0⟩
              refine Reg.startT (fun W => W.cell? ⟨X, 0, none⟩ = some (.slice (some ⟨b, 0, none⟩) ps.length c) ∧ W.cell? ⟨b, k * 6 + 3, none⟩ = some (.slice (some ⟨g, 0, none⟩) p.zs.length p.c) ∧ W.cell? ⟨Z, 0, none⟩ = some (.int .i64 a)) (fun _ => false) (by kernel_rfl) ?_
              have hHeld : w5.drew.cell? ⟨X, 0, none⟩ = some (.slice (some ⟨b, 0, none⟩) ps.length c) ∧ w5.drew.cell? ⟨b, k * 6 + 3, none⟩ = some (.slice (some ⟨g, 0, none⟩) p.zs.length p.c) ∧ w5.drew.cell? ⟨Z, 0, none⟩ = some (.int .i64 a) := Z0
              clear z0 x0 hc3
              refine Reg.takeT (i := 0) (v := ?_) rfl (by kernel_rfl) (by kernel_rfl) (by kernel_rfl) (by kernel_rfl) (fun _ _ _ h => h) (Or.inl ⟨by rfl, ?_⟩) (by assumption) ?_
              rotate_left 1
              focus (intro w hSw; (try dsimp only at hSw); go_simp; (try with_reducible rfl))
              try simp only [List.getElem_toArray, List.getElem_cons_succ, List.getElem_cons_zero, Act.put, List.setIfInBounds_toArray, List.set_cons_zero, List.set_cons_succ]
              refine Reg.takeT (i := 1) (v := ?_) rfl (by kernel_rfl) (by kernel_rfl) (by kernel_rfl) (by kernel_rfl) (fun _ _ _ h => h) (Or.inl ⟨by rfl, ?_⟩) (by assumption) ?_
              rotate_left 1
              focus (intro w hSw; (try dsimp only at hSw); go_simp; (try with_reducible rfl))
              try simp only [List.getElem_toArray, List.getElem_cons_succ, List.getElem_cons_zero, Act.put, List.setIfInBounds_toArray, List.set_cons_zero, List.set_cons_succ]
              refine Reg.takeT (i := 2) (v := ?_) rfl (by kernel_rfl) (by kernel_rfl) (by kernel_rfl) (by kernel_rfl) (fun _ _ _ h => h) (Or.inl ⟨by rfl, ?_⟩) (by assumption) ?_
              rotate_left 1
              focus (intro w hSw; (try dsimp only at hSw); go_simp; (try with_reducible rfl))
              try simp only [List.getElem_toArray, List.getElem_cons_succ, List.getElem_cons_zero, Act.put, List.setIfInBounds_toArray, List.set_cons_zero, List.set_cons_succ]
              refine Reg.takeT (i := 3) (v := ?_) rfl (by kernel_rfl) (by kernel_rfl) (by kernel_rfl) (by kernel_rfl) (fun _ _ _ h => h) (Or.inl ⟨by rfl, ?_⟩) (by assumption) ?_
              rotate_left 1
              focus (intro w hSw; (try dsimp only at hSw); go_simp; (try with_reducible rfl))
              try simp only [List.getElem_toArray, List.getElem_cons_succ, List.getElem_cons_zero, Act.put, List.setIfInBounds_toArray, List.set_cons_zero, List.set_cons_succ]
              refine Reg.takeT (i := 4) (v := ?_) rfl (by kernel_rfl) (by kernel_rfl) (by kernel_rfl) (by kernel_rfl) (fun _ _ _ h => h) (Or.inl ⟨by rfl, ?_⟩) (by assumption) ?_
              rotate_left 1
              focus (intro w hSw; (try dsimp only at hSw); go_simp; (try with_reducible rfl))
              try simp only [List.getElem_toArray, List.getElem_cons_succ, List.getElem_cons_zero, Act.put, List.setIfInBounds_toArray, List.set_cons_zero, List.set_cons_succ]
              refine Reg.takeT (i := 5) (v := ?_) rfl (by kernel_rfl) (by kernel_rfl) (by kernel_rfl) (by kernel_rfl) (fun _ _ _ h => h) (Or.inl ⟨by rfl, ?_⟩) (by assumption) ?_
              rotate_left 1
              focus (intro w hSw; (try dsimp only at hSw); go_simp; (try with_reducible rfl))
              try simp only [List.getElem_toArray, List.getElem_cons_succ, List.getElem_cons_zero, Act.put, List.setIfInBounds_toArray, List.set_cons_zero, List.set_cons_succ]
              refine Reg.takeT (i := 6) (v := ?_) rfl (by kernel_rfl) (by kernel_rfl) (by kernel_rfl) (by kernel_rfl) (fun _ _ _ h => h) (Or.inl ⟨by rfl, ?_⟩) (by assumption) ?_
              rotate_left 1
              focus (intro w hSw; (try dsimp only at hSw); go_simp; (try with_reducible rfl))
              try simp only [List.getElem_toArray, List.getElem_cons_succ, List.getElem_cons_zero, Act.put, List.setIfInBounds_toArray, List.set_cons_zero, List.set_cons_succ]
              refine Reg.takeT (i := 7) (v := ?_) rfl (by kernel_rfl) (by kernel_rfl) (by kernel_rfl) (by kernel_rfl) (fun _ _ _ h => h) (Or.inl ⟨by rfl, ?_⟩) (by assumption) ?_
              rotate_left 1
              focus (intro w hSw; (try dsimp only at hSw); go_simp; (try with_reducible rfl))
              try simp only [List.getElem_toArray, List.getElem_cons_succ, List.getElem_cons_zero, Act.put, List.setIfInBounds_toArray, List.set_cons_zero, List.set_cons_succ]
              refine Reg.takeT (i := 8) (v := ?_) rfl (by kernel_rfl) (by kernel_rfl) (by kernel_rfl) (by kernel_rfl) (fun _ _ _ h => h) (Or.inl ⟨by rfl, ?_⟩) (by assumption) ?_
              rotate_left 1
              focus (intro w hSw; (try dsimp only at hSw); go_simp; (try with_reducible rfl))
              try simp only [List.getElem_toArray, List.getElem_cons_succ, List.getElem_cons_zero, Act.put, List.setIfInBounds_toArray, List.set_cons_zero, List.set_cons_succ]
              refine Reg.takeT (i := 9) (v := ?_) rfl (by kernel_rfl) (by kernel_rfl) (by kernel_rfl) (by kernel_rfl) (fun _ _ _ h => h) (Or.inl ⟨by rfl, ?_⟩) (by assumption) ?_
              rotate_left 1
              focus (intro w hSw; (try dsimp only at hSw); go_simp; (try with_reducible rfl))
              try simp only [List.getElem_toArray, List.getElem_cons_succ, List.getElem_cons_zero, Act.put, List.setIfInBounds_toArray, List.set_cons_zero, List.set_cons_succ]
              refine Reg.takeT (i := 10) (v := ?_) rfl (by kernel_rfl) (by kernel_rfl) (by kernel_rfl) (by kernel_rfl) (fun _ _ _ h => h) (Or.inl ⟨by rfl, ?_⟩) (by assumption) ?_
              rotate_left 1
              focus (intro w hSw; (try dsimp only at hSw); go_simp; (try with_reducible rfl))
              try simp only [List.getElem_toArray, List.getElem_cons_succ, List.getElem_cons_zero, Act.put, List.setIfInBounds_toArray, List.set_cons_zero, List.set_cons_succ]
              have hcg' : w5.drew.cell? ⟨g, a + m, none⟩ = some (.int .u8 ((setz (clrs p.zs (p.fs.take j)) a m).getD (a + m) 0)) := hcg
              have hfz' : w5.drew.frozen? ⟨g, a + m, none⟩ = false := hfz
              refine Reg.oneT (i := 11) rfl (by kernel_rfl) (fun K hK => ?_)
              go_simp
              clear hcg hcg' hfz hfz'
              have HO6 := hide (OwnO.storeB (q := { clrP p (p.fs.take j) with zs := setz (clrs p.zs (p.fs.take j)) a m }) (HO5.out.call (below_dr (Below.refl _ _))) HAG.out (a + m) (by simp only [setz_len, clrP, clrs_len]; omega) 0)
              have HZ6 := hide (HZ5.out.drew.far (p := ⟨g, a + m, none⟩) (Ne.symm HNE.out.1) (.int .u8 0))
              have HX6 := hide (HX5.out.drew.far (p := ⟨g, a + m, none⟩) (Ne.symm HNE.out.2.1) (.int .u8 0))
              have HRR6 := hide (HRR5.out.drew.far (p := ⟨g, a + m, none⟩) (Ne.symm HNE.out.2.2.1) (.int .u8 0))
              have HB6 := hide ((HB5.out.drew).setCell (p := ⟨g, a + m, none⟩) HGB.out (.int .u8 0))
              have hS : (w5.drew.setCell ⟨g, a + m, none⟩ (.int .u8 0)).cell? ⟨b, k * 6 + 3, none⟩ = some (.slice (some ⟨g, 0, none⟩) p.zs.length p.c) := (World.cell?_of_block (Below.heap_setCell w5.drew ⟨g, a + m, none⟩ (.int .u8 0) b (Ne.symm HNE.out.2.2.2))).trans hHeld.2.1
              clear Z0 hHeld HO5 HZ5 HX5 HRR5 HB5 hzl hxl HNE
              have ew : w5.drew.setCell ⟨g, a + m, none⟩ (.int .u8 0) = (w5.setCell ⟨g, a + m, none⟩ (.int .u8 0)).drew := rfl
              rw [ew] at HO6 HZ6 HX6 HRR6 HB6 hS
              clear ew
              generalize (w5.setCell ⟨g, a + m, none⟩ (.int .u8 0)).drew = w6 at *
              refine hK.out _ _ ⟨by rw [← HAA.out]; exact HX6.out.cell 0, hS, HZ6.out.cell 0⟩ ?_
              clear hK K hS
              try simp only [List.getElem_toArray, List.getElem_cons_succ, List.getElem_cons_zero, Act.put, List.setIfInBounds_toArray, List.set_cons_zero, List.set_cons_succ]
              refine Reg.doneT (by kernel_rfl) ?_ _
              go_wp2_with fail
              refine ⟨⟨m + 1, by omega, by go_num, HO6.out, HZ6.out, HX6.out, HRR6.out, HB6.out⟩, by simp [intOf]; omega⟩
            · have e : m = wd := by omega
              subst e
              rw [← HTF.out] at HO5
              go_wp2_with fail
              refine ⟨⟨j + 1, by omega, by go_num, HO5.out, HX5.out, HRR5.out, HB5.out⟩, by simp [intOf]; omega⟩
        · have e : clrP p (p.fs.take j) = clrA p := by rw [List.take_of_length_le (by omega)]; rfl
          rw [e] at HO
          clear ho hx hrr hb e
          go_wp2_with fail
          refine ⟨⟨k + 1, by omega, by go_num, by rw [HTK.out.1, HL2.out, List.append_assoc]; exact HO.out, HX.out, HRR.out, HB.out⟩, by simp [intOf]; omega⟩
    · have e : (ps.take k).map clrA ++ ps.drop k = ps.map clrA := by rw [List.take_of_length_le (by omega), List.drop_of_length_le (by omega), List.append_nil]
      rw [e] at ho
      have HFIN := hide (CObject.ret_object ho hb (by
        rintro j ((hj | ⟨x, hx', hj⟩) | hj)
        · exact ho.1.1.box hrr (by decide) j hj
        · exact (ho.1.2.1 x hx').box hrr (by decide) (by decide) j hj
        · exact ho.2.box hrr (by decide) j hj) (Nat.le_of_lt hVR))
      have y0 := hrr.cell 0
      have y1 := hrr.cell 1
      have yf0 := hrr.frozen 0
      have yf1 := hrr.frozen 1
      have hrl := hrr.lt
      have x0 := hx.cell 0
      have x1 := hx.cell 1
      have hxl := hx.lt
      simp only [List.getElem?_toArray, List.getElem?_cons_zero, List.getElem?_cons_succ] at y0 y1 x0 x1
      have kk := (HRR.out.set 0 (.slice A ps.length c)).set 1 (.slice Y ys.length yc)
      have k0 := kk.cell 0
      have k1 := kk.cell 1
      simp only [List.setIfInBounds_toArray, List.set_cons_zero, List.set_cons_succ, List.getElem?_toArray, List.getElem?_cons_zero, List.getElem?_cons_succ] at k0 k1
      clear kk ho hx hrr hb e
      go_wp2_with fail
      refine bodyPost_ret (v := OV.v ⟨A, c, ps.map clrA, Y, yc, ys⟩) (by simp [results, Try.results23, go_sem, OV.v, k0, k1]) rfl ?_
      rw [HDD.out]
      have h := HFIN.out
      simp only [List.length_map] at h
      exact h
end Go.Proofs.Ytmglgjchemecjaa.CClearS
