/- LandmarksOf: the program's. -/
import Derived.Test.YtmglgjchemecjaaGreatFnExactLandmarksOfM14
import Derived.Test.YtmglgjchemecjaaGreatRows
set_option linter.unusedSimpArgs false
set_option linter.unusedVariables false
namespace Go.Proofs.YtmglgjchemecjaaGreat.CLmkI
set_option maxRecDepth 200000
open Go.ChangeShapes Go.WideShapes Go.ChangeAt Go.RowKit Kit CCode CName CFixups CSymbols PObj BObj PValid CObjValid BStore CMarkRows BList PLink PLinkL CFind CPlaceL CSorted CNames CLayout CObjL COwnL CPlaceS CAllPl CNPlS PIns CNGS CNamesOf CLandmarks PLmk PLmk2 PStab CStab7 CLmkS
theorem srt_le (ns : List ByteArray) : (srtN ns).length ≤ ns.length := by
  rw [← all_srt]
  exact insAll_len ns
theorem grown_of_row {w w' : World} {B base : Nat} {v : Option Nat} (h : Below B w w') (hb : base ≤ B) : Below base w w' := h.mono hb
set_option maxHeartbeats 8000000 in
theorem landmarksOf_any (A : Option Addr) (os : List OV) (c : Nat) (base : Int) (w : World) (hr : RdOs w w.heap.size A os) (hf : Lst os) :
    Calls Tryz.prog 23 #[.slice A os.length c, .int .i64 base] w (RetK (lmkS (os.map OV.d) base) w) := by
  obtain ⟨i0, hi1, hi2, hi3, hi4⟩ := info_parts CLandmarks.info
  have HI := hide (And.intro hi1 (And.intro hi2 (And.intro hi3 hi4)))
  clear hi1 hi2 hi3 hi4
  obtain ⟨j0, hj1, hj2, hj3, hj4⟩ := info_parts infoStr
  have HJ := hide (And.intro hj1 (And.intro hj2 (And.intro hj3 hj4)))
  clear hj1 hj2 hj3 hj4
  have HR := hide hr
  have HF := hide hf
  have hn20 := hf.n
  have HLN := hide (show Lens os from ⟨hf.n, fun o h => (hf.f o h).ny⟩)
  clear hr hf
  have HB := hide (show Below w.heap.size w (w.alloc (.cells #[] 104)) from (by repeat (first | exact Below.refl _ _ | with_reducible assumption | (refine Below.drew ?_) | (refine Below.drewN ?_ _) | (refine Below.alloc ?_ (by simp; try omega) _) | (refine Below.setCell ?_ (by simp; try omega) _))))
  go_enter Tryz.func23, Tryz.ntmps23
  go_wp2_with fail
  have hgs : w.heap.size < (w.alloc (.cells #[] 104)).heap.size := by simp
  generalize w.alloc (.cells #[] 104) = w0 at *
  refine (layoutOf_any A os c base w0 ((HR.out.below HB.out).more HB.out.size) HF.out.fits).mono ?_
  rintro e w1 ⟨PA, pc, rs, E, ec, es, rfl, hyes, hP, hE, b1⟩
  have HYES := hide hyes
  have HP := hide hP
  have hgs1 : w.heap.size < w1.heap.size := Nat.lt_of_lt_of_le hgs b1.size
  replace HB := hide (HB.out.trans (b1.mono HB.out.size))
  clear b1
  clear hyes hP hE hgs
  cases hok : (objsOk (os.map OV.d) && baseOk base)
  · have HV := hide (lmk_bad hok)
    have HB2 := hide (HB.out.alloc HB.out.size (.cells #[.slice PA rs.length pc, .slice E es.length ec] 87))
    clear hok
    go_wp2_with fail
    go_ret
    rw [HV.out]
    exact ⟨_, _, rfl, Row.empty _ _ _ _ _, HB2.out⟩
  obtain ⟨hrz, hx⟩ := HYES.out hok
  clear HYES hx
  have HV := hide (lmk_ok hok)
  have hok' := hok
  rw [Bool.and_eq_true] at hok'
  obtain ⟨ho, hbs⟩ := hok'
  have hb0 : 0 ≤ base ∧ base ≤ 4096 := by
    simp only [baseOk, Bool.and_eq_true, decide_eq_true_eq] at hbs
    exact hbs.1
  have HPL := hide (all_pl2 ho hb0.1 hb0.2 hrz)
  have HRZ := hide hrz
  have HOK := hide ho
  have HNE := hide (names_eq ho)
  have HNF := hide (names_found ho)
  have HOB := hide (lst_objs ho)
  have h4 := (lst_objs ho).1
  have HX := hide ((Box.new w1 87 #[.slice PA rs.length pc, .slice E es.length ec]).alloc (.cells #[] 9))
  have HB2 := hide ((HB.out.alloc HB.out.size (.cells #[.slice PA rs.length pc, .slice E es.length ec] 87)).alloc (by have := HB.out.size; simp; omega) (.cells #[] 9))
  have HB1 := hide (show Below w1.heap.size w1 ((w1.alloc (.cells #[.slice PA rs.length pc, .slice E es.length ec] 87)).alloc (.cells #[] 9)) from (by repeat (first | exact Below.refl _ _ | with_reducible assumption | (refine Below.drew ?_) | (refine Below.drewN ?_ _) | (refine Below.alloc ?_ (by simp; try omega) _) | (refine Below.setCell ?_ (by simp; try omega) _))))
  clear hok ho hbs hb0 hrz HB
  go_wp2_with fail
  generalize hw2 : (w1.alloc (.cells #[.slice PA rs.length pc, .slice E es.length ec] 87)).alloc (.cells #[] 9) = w2 at *
  clear hw2
  generalize hX0 : w1.heap.size = X0 at *
  have HX0 := hide hX0
  clear hX0
  go_loopw [8, 28] (fun s i wi => ∃ (k : Nat) (A1 : Option Addr) (c1 : Nat) (ns : List ByteArray), k ≤ os.length ∧ s = .slice A1 ns.length c1 ∧ i = .int .i64 k ∧ ns = (os.take k).flatMap (fun o => srtN (givS o.d.ys)) ∧ ns.length ≤ 12 * k ∧ Row wi X0 9 1 A1 ns.length c1 (nmC ns) ∧ Box wi X0 87 #[.slice PA rs.length pc, .slice E es.length ec] ∧ Below w.heap.size w wi ∧ Below X0 w1 wi) (fun _ i _ => os.length - (intOf i).toNat)
  case atStart => exact ⟨0, _, 0, [], Nat.zero_le _, rfl, rfl, rfl, Nat.le_refl _, Row.empty _ _ _ _ _, HX.out, HB2.out, HB1.out⟩
  case round =>
    rename World => wk
    clear HX HB2 HB1
    obtain ⟨k, A1, c1, ns, hk, rfl, rfl, hns, hnl, hrow, hbox, hb, hb1⟩ := hrel
    have HNS := hide hns
    have HW := hide hrow
    have HX := hide hbox
    have HB := hide hb
    have HB1 := hide hb1
    clear hns hrow hbox hb1
    by_cases hlt : k < os.length
    · obtain ⟨bb, off, hA, hbb, hc0, hc1⟩ := (HR.out.below hb).at hlt
      have hyl := (HOB.out.2 _ (List.getElem_mem hlt)).2
      have HTK := hide (show (os.take (k + 1)).flatMap (fun o => srtN (givS o.d.ys)) = ns ++ srtN (givS os[k].ys) from by rw [take_succ hlt, List.flatMap_append, HNS.out]; simp [OV.d])
      have HRO := hide (((HR.out.2 _ (List.getElem_mem hlt)).below HB.out).more HB.out.size)
      clear hb
      subst hA
      generalize os[k] = o at *
      have B1 : Below wk.heap.size wk (wk.alloc (.cells #[.slice o.A o.ps.length o.c, .slice o.Y o.ys.length o.yc] 31)) := (by repeat (first | exact Below.refl _ _ | with_reducible assumption | (refine Below.drew ?_) | (refine Below.drewN ?_ _) | (refine Below.alloc ?_ (by simp; try omega) _) | (refine Below.setCell ?_ (by simp; try omega) _)))
      have HO := hide (Box.new wk 31 #[.slice o.A o.ps.length o.c, .slice o.Y o.ys.length o.yc])
      have HRY := hide (HRO.out.2)
      replace HW := hide (HW.out.call B1)
      replace HX := hide (HX.out.call B1)
      replace HB := hide (HB.out.trans (B1.mono HB.out.size))
      replace HB1 := hide (HB1.out.trans (B1.mono (by have := HB1.out.size; have := HX0.out; omega)))
      replace HRY := hide ((HRY.out.below B1).more B1.size)
      have o1 := HO.out.cell 1
      simp only [List.getElem?_toArray, List.getElem?_cons_zero, List.getElem?_cons_succ] at o1
      have hol := HO.out.lt
      go_wp2_with fail
      clear hc0 hc1 B1 o1 hol HO HRO
      generalize wk.alloc (.cells #[.slice o.A o.ps.length o.c, .slice o.Y o.ys.length o.yc] 31) = wa at *
      refine (namesOf_any _ o.ys _ wa HRY.out (by omega)).mono ?_
      rintro e w4 ⟨GA, gc, rfl, rg, b4⟩
      have HG := hide rg
      have hgl := srt_le (givS o.ys)
      have hgl2 := givS_len o.ys
      replace HX := hide (HX.out.call b4)
      replace HW := hide (HW.out.call b4)
      replace HB1 := hide (HB1.out.trans (b4.mono (by have := HB1.out.size; have := HX0.out; omega)))
      replace HB := hide (HB.out.trans (b4.mono HB.out.size))
      clear b4 rg HRY
      generalize srtN (givS o.ys) = ms at *
      go_wp2_with (at_builtin; refine wpList_app w4 rfl (.tmp 32) (.tmp 35) 90 rfl 9 j0 (.string ByteArray.empty) 1 16 Tryz.underlying90 HJ.out.1 HJ.out.2.1 HJ.out.2.2.1 HJ.out.2.2.2 rfl (by decide) X0 A1 ns.length c1 (nmC ns) rfl HW.out ?hs GA ms.length gc (nmC ms) rfl HG.out.rd ?hl HG.out.nil ?o1 ?n1 ?n2 ?_)
      case hs => have := HX.out.lt; omega
      case hl => simp [nmC]
      case o1 => exact CInsS.one_nm ms
      case n1 => unfold maxLen; omega
      case n2 => omega
      intro A3 n3 c3 w5 hn o3 g3 k3
      subst hn
      have hwx : w.heap.size ≤ X0 := by have := HX0.out; omega
      have HX3 := hide (HX.out.grown g3 (HW.out.box HX.out (by decide)))
      have HB3 := hide (HB.out.grown g3 HB.out.size (fun j hj => Nat.le_trans hwx (HW.out.lt j hj).1))
      have HB13 := hide (HB1.out.grown g3 (by have := HX.out.lt; omega) (fun j hj => (HW.out.lt j hj).1))
      have HW3 := hide (show Row w5 X0 9 1 A3 (ns.length + ms.length) c3 (nmC (ns ++ ms)) from by
        have e : nmC (ns ++ ms) = nmC ns ++ nmC ms := by simp [nmC]
        rw [e]
        exact o3)
      clear o3 g3 k3 HX HB HB1 HW HG hwx
      go_wp2_with fail
      refine ⟨⟨k + 1, A3, c3, ns ++ ms, by omega, by simp, by go_num, HTK.out.symm, by simp; omega, by simpa using HW3.out, HX3.out, HB3.out, HB13.out⟩, by simp [intOf]; omega⟩
    · have hke : k = os.length := by omega
      have HMS := hide (show srtN ns = namesL (os.map OV.d) from by
        rw [← HNE.out, HNS.out, hke, List.take_length, List.flatMap_map])
      have hn48 : ns.length ≤ 48 := by omega
      clear hb hke HNS
      go_wp2_with fail
      refine (sorted_any ns A1 c1 X0 wk HW.out (by omega)).mono ?_
      rintro e w4 ⟨NA, nc, rfl, rn, b4⟩
      have hm48 := srt_le ns
      have hxw : X0 ≤ wk.heap.size := Nat.le_of_lt HX.out.lt
      have HXX := hide (HX.out.call b4)
      have HNR := hide rn
      have HAP := hide (show ∀ k, blk NA nc = some k → X0 ≤ k from fun j hj => Nat.le_trans (by have := HX.out.lt; omega) (rn.lt j hj).1)
      replace HB := hide (HB.out.trans (b4.mono HB.out.size))
      replace HB1 := hide (HB1.out.trans (b4.mono (by have := HX.out.lt; omega)))
      clear b4 rn HW HX
      have HAP2 := hide (show Apart (some ⟨w.heap.size, 0, none⟩) 0 NA nc from by
        intro j h1 h2
        have h3 := HAP.out j h2
        have h4 := HX0.out
        have h5 : j = w.heap.size := by
          first
            | (cases h1; done)
            | (simpa [blk] using h1.symm)
        omega)
      rw [HMS.out] at HNR hm48
      rw [show srtN ns = namesL (os.map OV.d) from HMS.out]
      clear HMS HNE HAP
      have hml : (namesL (os.map OV.d)).length ≤ 48 := by omega
      generalize hms : namesL (os.map OV.d) = ms at *
      have HMS := hide hms
      clear hms hm48
      go_wp2_with fail
      go_loopw [5, 41] (fun s i wi => ∃ (k ga c2 : Nat) (L : List LD), k ≤ ms.length ∧ s = .slice (some ⟨ga, 0, none⟩) L.length c2 ∧ i = .int .i64 k ∧ L = (ms.take k).map (atP (os.map OV.d) base) ∧ L.length ≤ 48 ∧ w.heap.size ≤ ga ∧ ga < wi.heap.size ∧ Row wi X0 104 2 (some ⟨ga, 0, none⟩) L.length c2 (cellsOf landmarkC L) ∧ Apart (some ⟨ga, 0, none⟩) c2 NA nc ∧ Row wi X0 9 1 NA ms.length nc (nmC ms) ∧ Box wi X0 87 #[.slice PA rs.length pc, .slice E es.length ec] ∧ Below w.heap.size w wi ∧ Below X0 w1 wi) (fun _ i _ => ms.length - (intOf i).toNat)
      case atStart => exact ⟨0, w.heap.size, 0, [], Nat.zero_le _, rfl, rfl, rfl, by simp, Nat.le_refl _, by have := HXX.out.lt; have := HX0.out; omega, Row.empty _ _ _ _ _, HAP2.out, HNR.out.down hxw, HXX.out, HB.out, HB1.out⟩
      case round =>
        rename World => wi
        clear HAP2 HNR HXX HB HB1 hxw
        obtain ⟨k, ga, c2, L, hk2, rfl, rfl, hL, hL48, hga, hgl, hrow, hap, hnr, hbox, hb, hb1⟩ := hrel
        have HL := hide hL
        have HW := hide hrow
        have HAP := hide hap
        have HNR := hide hnr
        have HX := hide hbox
        have HB := hide hb
        have HB1 := hide hb1
        clear hL hrow hap hnr hbox hb hb1
        by_cases hlt2 : k < ms.length
        · obtain ⟨nb, no, hNA, hnb, hcn⟩ := HNR.out.rd k (.string ms[k]) (by simp [nmC, List.getElem?_eq_getElem hlt2])
          have HLX := hide (show (ms.take (k + 1)).map (atP (os.map OV.d) base) = L ++ [atP (os.map OV.d) base ms[k]] from by rw [take_succ hlt2, List.map_append, HL.out]; rfl)
          obtain ⟨gg, hgg⟩ := Option.isSome_iff_exists.1 (HNF.out ms[k] (List.getElem_mem hlt2))
          have hLk : L.length = k := by rw [HL.out, List.length_map, List.length_take]; omega
          have HLk := hide hLk
          subst hNA
          generalize ms[k] = nm at *
          obtain ⟨hgk, hgj, hpo, htg⟩ := found_at HPL.out hgg
          have HAT := hide (show atP (os.map OV.d) base nm = (nm, tgY (rs.map RV.zs) gg.1 (os[gg.1]).ys[gg.2]) from by
            unfold atP
            rw [hgg, ← HRZ.out, htg])
          have HFN := hide (findName_any A os c nm wi ((HR.out.below HB.out).more HB.out.size) HLN.out)
          rw [hgg] at HFN
          obtain ⟨g1, g2⟩ := gg
          simp only [givV, gin, gat, Option.isSome] at HFN
          simp only at hgk hgj hpo HAT
          have HPO := hide hpo
          have hx1 := HX.out.lt
          have hXs : X0 ≤ w1.heap.size ∧ w1.heap.size ≤ X0 := ⟨by have := HX0.out; omega, by have := HX0.out; omega⟩
          clear htg hpo hgg hLk HL
          go_wp2_with fail
          refine HFN.out.mono ?_
          rintro e w5 ⟨rfl, b5⟩
          replace HW := hide (HW.out.call b5)
          replace HNR := hide (HNR.out.call b5)
          replace HX := hide (HX.out.call b5)
          replace HB := hide (HB.out.trans (b5.mono HB.out.size))
          replace HB1 := hide (HB1.out.trans (b5.mono (Nat.le_of_lt hx1)))
          have hgl5 : ga < w5.heap.size := Nat.lt_of_lt_of_le hgl b5.size
          clear b5 HFN hcn hgl hnb
          have B6 : Below w5.heap.size w5 (w5.alloc (.cells #[.int .i64 g1, .int .i64 g2] 109)) := (by repeat (first | exact Below.refl _ _ | with_reducible assumption | (refine Below.drew ?_) | (refine Below.drewN ?_ _) | (refine Below.alloc ?_ (by simp; try omega) _) | (refine Below.setCell ?_ (by simp; try omega) _)))
          have HG := hide (Box.new w5 109 #[.int .i64 g1, .int .i64 g2])
          have hx5 := HX.out.lt
          replace HW := hide (HW.out.call B6)
          replace HNR := hide (HNR.out.call B6)
          replace HX := hide (HX.out.call B6)
          replace HB := hide (HB.out.trans (B6.mono HB.out.size))
          replace HB1 := hide (HB1.out.trans (B6.mono (Nat.le_of_lt hx5)))
          have hgl6 : ga < (w5.alloc (.cells #[.int .i64 g1, .int .i64 g2] 109)).heap.size := Nat.lt_of_lt_of_le hgl5 B6.size
          have HPC := hide (placeOf_any PA rs pc E es.length ec A os c g1 g2 (w5.alloc (.cells #[.int .i64 g1, .int .i64 g2] 109)) ((HP.out.below HB1.out).more (Nat.le_of_lt HX.out.lt)) ((HR.out.below HB.out).more HB.out.size) hgk hgj ⟨HLN.out.1, HLN.out.2 _ (List.getElem_mem hgk)⟩ HPO.out)
          generalize tgY (rs.map RV.zs) g1 (os[g1]).ys[g2] = v at *
          clear B6 HPO hgj hgk
          have x0 := HX.out.cell 0
          have x1 := HX.out.cell 1
          simp only [List.getElem?_toArray, List.getElem?_cons_zero, List.getElem?_cons_succ] at x0 x1
          have y0 := HG.out.cell 0
          have y1 := HG.out.cell 1
          simp only [List.getElem?_toArray, List.getElem?_cons_zero, List.getElem?_cons_succ] at y0 y1
          have hxl := HX.out.lt
          have hyl := HG.out.lt
          go_wp2_with fail
          clear x0 x1 y0 y1 hxl hyl HG
          generalize w5.alloc (.cells #[.int .i64 g1, .int .i64 g2] 109) = w6 at *
          refine HPC.out.mono ?_
          rintro e w7 ⟨rfl, b7⟩
          have hx6 := HX.out.lt
          replace HW := hide (HW.out.call b7)
          replace HNR := hide (HNR.out.call b7)
          replace HX := hide (HX.out.call b7)
          replace HB := hide (HB.out.trans (b7.mono HB.out.size))
          replace HB1 := hide (HB1.out.trans (b7.mono (Nat.le_of_lt hx6)))
          have hgl7 : ga < w7.heap.size := Nat.lt_of_lt_of_le hgl6 b7.size
          clear b7 HPC hgl6 hx6
          go_wp2_with (at_builtin; refine wpList_app (w7.alloc (.cells #[.string nm, .int .i64 v] 104)) rfl (.tmp 51) (.tmp 58) 48 rfl 104 i0 (.agg #[.string ByteArray.empty, .int .i64 0]) 2 24 Tryz.underlying48 HI.out.1 HI.out.2.1 HI.out.2.2.1 HI.out.2.2.2 rfl (by decide) X0 (some ⟨ga, 0, none⟩) L.length c2 (cellsOf landmarkC L) rfl (HW.out.alloc _) ?hb (some ⟨w7.heap.size, 0, none⟩) 1 1 [.string nm, .int .i64 v] rfl (rd_lit w7 #[.string nm, .int .i64 v] 104 _ rfl) rfl (fun h => by cases h) ?o1 ?n1 ?n2 ?_)
          case hb => have h := HX.out.lt; simp; omega
          case o1 => exact one_lmk1 nm v
          case n1 => unfold maxLen; omega
          case n2 => omega
          intro A3 n3 c3 w8 hn o3 g3 k3
          subst hn
          have B8 : Below w7.heap.size w7 (w7.alloc (.cells #[.string nm, .int .i64 v] 104)) := (by repeat (first | exact Below.refl _ _ | with_reducible assumption | (refine Below.drew ?_) | (refine Below.drewN ?_ _) | (refine Below.alloc ?_ (by simp; try omega) _) | (refine Below.setCell ?_ (by simp; try omega) _)))
          have hx7 := HX.out.lt
          have hwx : w.heap.size ≤ X0 := by have := HX0.out; omega
          have HX8 := hide ((HX.out.call B8).grown g3 ((HW.out.call B8).box (HX.out.call B8) (by decide)))
          have HB8 := hide ((HB.out.trans (B8.mono HB.out.size)).grown g3 (HB.out.trans (B8.mono HB.out.size)).size (fun j hj => Nat.le_trans hwx (HW.out.lt j hj).1))
          have HB18 := hide ((HB1.out.trans (B8.mono (Nat.le_of_lt hx7))).grown g3 (Nat.le_of_lt (HX.out.call B8).lt) (fun j hj => (HW.out.lt j hj).1))
          have HNR8 := hide ((HNR.out.call B8).grown g3 (fun j hj e => HAP.out j e hj))
          have HAP8 := hide (show Apart A3 c3 (some ⟨nb, no, none⟩) nc from by
            intro j h1 h2
            rcases k3 j h1 with h3 | h3
            · exact HAP.out j h3 h2
            · have := (HNR.out.lt j h2).2
              omega)
          obtain ⟨g', hA', hgx, hgy, _, _⟩ := own_of o3 (by omega)
          subst hA'
          have HW8 := hide (show Row w8 X0 104 2 (some ⟨g', 0, none⟩) (L.length + 1) c3 (cellsOf landmarkC (L ++ [(nm, v)])) from by
            simpa [cellsOf, landmarkC] using o3)
          have HLX2 := hide (show L ++ [(nm, v)] = (ms.take (k + 1)).map (atP (os.map OV.d) base) from by rw [HLX.out, HAT.out])
          have hll : (L ++ [(nm, v)]).length = L.length + 1 := by simp
          have hl48 : L.length + 1 ≤ 48 := by have := HLk.out; omega
          have hgz : w.heap.size ≤ g' := Nat.le_trans hwx hgx
          clear o3 g3 k3 B8 HW HNR HX HB HB1 HAP HLX HAT hgl7 hx7
          generalize L ++ [(nm, v)] = L' at *
          have HLL := hide hll
          clear hll
          go_wp2_with fail
          refine ⟨⟨k + 1, g', c3, L', by omega, by rw [HLL.out], by go_num, HLX2.out, by rw [HLL.out]; exact hl48, hgz, hgy, by rw [HLL.out]; exact HW8.out, HAP8.out, HNR8.out, HX8.out, HB8.out, HB18.out⟩, by simp [intOf]; omega⟩
        · have hke : k = ms.length := by omega
          have HLE := hide (show L = ms.map (atP (os.map OV.d) base) from by rw [HL.out, hke, List.take_length])
          have HCR := hide (show Crs L from by
            rw [HLE.out, ← HMS.out]
            exact lmk_crs _ _)
          have hwx : w.heap.size ≤ X0 := by have := HX0.out; omega
          have HST := hide (sortRow_any w.heap.size ga c2 L wi (HW.out.down hwx) ⟨hga, hgl⟩ HCR.out (by omega))
          have HV2 := hide (fun (M : List LD) (hp : M.Perm L) (hs : Srt M) => (show M = lmkS (os.map OV.d) base from by
            rw [HV.out, ← HLE.out]
            exact sort_is HCR.out hp hs))
          have HLP := hide (fun (M : List LD) (hp : M.Perm L) => hp.length_eq)
          clear hke HL HW HNR HX HB1 HAP HCR HLE
          go_wp2_with fail
          refine HST.out.mono ?_
          rintro e w7 ⟨rfl, M, hp, hs, hrow, hbel⟩
          have HRM := hide hrow
          have HBM := hide (HB.out.trans hbel)
          have HML := hide (HLP.out M hp)
          have HMV := hide (HV2.out M hp hs)
          clear hrow hbel hp hs HV2 HLP HST
          go_wp2_with fail
          go_ret
          rw [← HMV.out]
          exact ⟨_, c2, by rw [HML.out]; rfl, HRM.out, HBM.out⟩
end Go.Proofs.YtmglgjchemecjaaGreat.CLmkI
/- The marks of landmarks. -/
namespace Go.Proofs.YtmglgjchemecjaaGreat.CLmkMarks
set_option maxRecDepth 200000
open Go.ChangeShapes Go.WideShapes Go.ChangeAt Go.RowKit Kit CFixups CLandmarks PObj BObj CMarkText
def lmark (k : Int) : CLandmarks.D := (mtx k, k + 1)
def lmarks (k0 : Int) (m : Nat) : List CLandmarks.D := (List.range m).map fun (i : Nat) => lmark (k0 + 2 * (i : Int))
theorem lmarks_len (k0 : Int) (m : Nat) : (lmarks k0 m).length = m := by simp [lmarks]
theorem lmarks_at (k0 : Int) (m i : Nat) (h : i < m) : (lmarks k0 m)[i]'(by rw [lmarks_len]; exact h) = lmark (k0 + 2 * (i : Int)) := by simp [lmarks]
theorem lmarks_succ (k0 : Int) (i : Nat) : lmarks k0 (i + 1) = lmarks k0 i ++ [lmark (k0 + 2 * (i : Int))] := by simp [lmarks, List.range_succ]
theorem lmark_any (base : Nat) (A : Option Addr) (c m : Nat) (cs : List Value) (k0 : Int) (w : World) (h0 : 0 ≤ k0) (hk0 : k0 ≤ 4294967296) (hm : m ≤ 4294967296)
    (hown : w.ownsRow base 104 2 (.slice A m c) m cs) :
    Calls Tryz.prog 27 #[.slice A m c, .int .i64 k0] w fun e w' => e = .returned (.int .i64 (k0 + 2 * m)) ∧ w'.ownsRow base 104 2 (.slice A m c) m (cellsOf landmarkC (lmarks k0 m)) ∧ w.grownBy w' (Value.slice A m c).ownBlock := by
  go_enter Tryz.func27, Tryz.ntmps27
  go_wp2
  have hg0 := World.grownBy.refl w (Value.slice A m c).ownBlock
  go_loopw [1, 5] (fun k i wr => ∃ j : Nat, j ≤ m ∧ i = .int .i64 j ∧ k = .int .i64 (k0 + 2 * j) ∧ (∃ xs, wr.ownsRow base 104 2 (.slice A m c) m (cellsOf landmarkC (lmarks k0 j) ++ xs)) ∧ w.grownBy wr (Value.slice A m c).ownBlock) (fun _ i _ => m - (intOf i).toNat)
  case atStart => exact ⟨0, Nat.zero_le _, rfl, by simp, ⟨cs, by simpa [lmarks, cellsOf] using hown⟩, hg0⟩
  case round =>
    obtain ⟨j, hj, rfl, rfl, ⟨xs, ho⟩, hg⟩ := hrel
    clear hown hg0
    by_cases hlt : j < m
    · have hform : ∃ g, A = some ⟨g, 0, none⟩ := by
        rcases ho.2 with ⟨hv, h0⟩ | ⟨g, cap, cur, hv, _⟩
        · omega
        · injection hv with hA
          exact ⟨g, hA⟩
      obtain ⟨g, rfl⟩ := hform
      have HO := hide ho
      have HG := hide hg
      clear ho hg
      go_wp2_with fail
      refine (markText_any (k0 + 2 * j) _ (by omega)).mono ?_
      rintro e w2 ⟨rfl, b2⟩
      have ho := own_call b2 HO.out
      have hg := grown_below HG.out b2
      obtain ⟨⟨old0, hk0⟩, hfz0⟩ := own_old ho (j := j * 2) (by omega)
      obtain ⟨⟨old1, hk1⟩, hfz1⟩ := own_old ho (j := j * 2 + 1) (by omega)
      have hpl : (cellsOf landmarkC (lmarks k0 j)).length = j * 2 := by rw [cellsOf_len landmarkC_len, lmarks_len]
      have ho1 := own_put ho hpl (by omega) (.string (mtx (k0 + 2 * j)))
      have hg1 := grown_put (u := .string (mtx (k0 + 2 * j))) (j := j * 2) hg
      have ho2 := own_put ho1 (j := j * 2 + 1) (by simp only [List.length_append, hpl]; rfl) (by omega) (.int .i64 (k0 + 2 * (j : Int) + 1))
      have hg2 := grown_put (u := .int .i64 (k0 + 2 * (j : Int) + 1)) (j := j * 2 + 1) hg1
      have HH := hide (And.intro ho2 hg2)
      have E1 := hide (show k0 + 2 * (j : Int) + 1 + 1 = k0 + 2 * ((j + 1 : Nat) : Int) by omega)
      clear ho1 hg1 ho2 hg2 ho hg hpl HO HG b2
      go_wp2
      refine ⟨⟨j + 1, by omega, by go_num, by rw [E1.out], ⟨xs.tail.tail, ?_⟩, HH.out.2⟩, by simp [intOf]; omega⟩
      rw [lmarks_succ]
      simpa [cellsOf, landmarkC, lmark] using HH.out.1
    · have e : j = m := by omega
      subst e
      have hxs : xs = [] := by
        have := ho.1
        rw [List.length_append, cellsOf_len landmarkC_len, lmarks_len] at this
        exact List.eq_nil_of_length_eq_zero (by omega)
      subst hxs
      rw [List.append_nil] at ho
      go_wp2
      go_ret
      exact ⟨rfl, ho, hg⟩
theorem lheld_any (A : Option Addr) (c m : Nat) (k0 : Int) (w : World) (h0 : 0 ≤ k0) (hk0 : k0 ≤ 4294967296) (hm : m ≤ 4294967296) (hr : Rd w w.heap.size A (cellsOf landmarkC (lmarks k0 m))) :
    Calls Tryz.prog 28 #[.slice A m c, .int .i64 k0] w (Ret (.int .i64 (k0 + 2 * m)) w) := by
  go_enter Tryz.func28, Tryz.ntmps28
  go_wp2
  go_loopw [1, 5] (fun k i wr => ∃ j : Nat, j ≤ m ∧ i = .int .i64 j ∧ k = .int .i64 (k0 + 2 * j) ∧ Below w.heap.size w wr) (fun _ i _ => m - (intOf i).toNat)
  case atStart => exact ⟨0, Nat.zero_le _, rfl, by simp, Below.refl _ _⟩
  case round =>
    obtain ⟨j, hj, rfl, rfl, hb⟩ := hrel
    have HB := hide hb
    by_cases hlt : j < m
    · obtain ⟨b, off, rfl, hbg, hc⟩ := (hr.below hb).row landmarkC_len (by decide) (k := j) (by rw [lmarks_len]; exact hlt)
      rw [lmarks_at _ _ _ hlt] at hc
      have hc0 := hc 0 _ rfl
      have hc1 := hc 1 _ rfl
      simp only [Nat.add_zero, lmark] at hc0 hc1
      have hbl : b < wr.heap.size := Nat.lt_of_lt_of_le hbg hb.size
      have HC := hide hc1
      have E1 := hide (show k0 + 2 * (j : Int) + 1 + 1 = k0 + 2 * ((j + 1 : Nat) : Int) by omega)
      clear hr hc hb hc1
      go_wp2_with fail
      refine Reg.startT (fun V => V.cell? ⟨b, off + j * 2, none⟩ = some (.string (mtx (k0 + 2 * j)))) (fun _ => false) (by kernel_rfl) ?_
      have hHeld : wr.drew.cell? ⟨b, off + j * 2, none⟩ = some (.string (mtx (k0 + 2 * j))) := hc0
      refine Reg.takeT (i := 0) (v := ?_) rfl (by kernel_rfl) (by kernel_rfl) (by kernel_rfl) (by kernel_rfl) (fun _ _ _ h => h) (Or.inl ⟨by rfl, ?_⟩) (by assumption) ?_
      rotate_left 1
      focus (intro w hSw; (try dsimp only at hSw); go_simp; (try with_reducible rfl))
      try simp only [List.getElem_toArray, List.getElem_cons_succ, List.getElem_cons_zero, Act.put, List.setIfInBounds_toArray, List.set_cons_zero, List.set_cons_succ]
      refine Reg.takeT (i := 1) (v := ?_) rfl (by kernel_rfl) (by kernel_rfl) (by kernel_rfl) (by kernel_rfl) (fun _ _ _ h => h) (Or.inl ⟨by rfl, ?_⟩) (by assumption) ?_
      rotate_left 1
      focus (intro w hSw; (try dsimp only at hSw); go_simp; (try with_reducible rfl))
      try simp only [List.getElem_toArray, List.getElem_cons_succ, List.getElem_cons_zero, Act.put, List.setIfInBounds_toArray, List.set_cons_zero, List.set_cons_succ]
      refine Reg.takeT (i := 2) (v := ?_) rfl (by kernel_rfl) (by kernel_rfl) (by kernel_rfl) (by kernel_rfl) (fun _ _ _ h => h) (Or.inl ⟨by rfl, ?_⟩) (by assumption) ?_
      rotate_left 1
      focus (intro w hSw; (try dsimp only at hSw); go_simp; (try with_reducible rfl))
      try simp only [List.getElem_toArray, List.getElem_cons_succ, List.getElem_cons_zero, Act.put, List.setIfInBounds_toArray, List.set_cons_zero, List.set_cons_succ]
      refine Reg.takeT (i := 3) (v := ?_) rfl (by kernel_rfl) (by kernel_rfl) (by kernel_rfl) (by kernel_rfl) (fun _ _ _ h => h) (Or.inl ⟨by rfl, ?_⟩) (by assumption) ?_
      rotate_left 1
      focus (intro w hSw; (try dsimp only at hSw); go_simp; (try with_reducible rfl))
      try simp only [List.getElem_toArray, List.getElem_cons_succ, List.getElem_cons_zero, Act.put, List.setIfInBounds_toArray, List.set_cons_zero, List.set_cons_succ]
      refine Reg.takeT (i := 4) (v := ?_) rfl (by kernel_rfl) (by kernel_rfl) (by kernel_rfl) (by kernel_rfl) (fun _ _ _ h => h) (Or.inl ⟨by rfl, ?_⟩) (by assumption) ?_
      rotate_left 1
      focus (intro w hSw; (try dsimp only at hSw); go_simp; (try with_reducible rfl))
      try simp only [List.getElem_toArray, List.getElem_cons_succ, List.getElem_cons_zero, Act.put, List.setIfInBounds_toArray, List.set_cons_zero, List.set_cons_succ]
      refine Reg.takeT (i := 5) (v := ?_) rfl (by kernel_rfl) (by kernel_rfl) (by kernel_rfl) (by kernel_rfl) (fun _ _ _ h => h) (Or.inl ⟨by rfl, ?_⟩) (by assumption) ?_
      rotate_left 1
      focus (intro w hSw; (try dsimp only at hSw); go_simp; (try with_reducible rfl))
      try simp only [List.getElem_toArray, List.getElem_cons_succ, List.getElem_cons_zero, Act.put, List.setIfInBounds_toArray, List.set_cons_zero, List.set_cons_succ]
      refine Reg.oneT (i := 6) rfl (by kernel_rfl) (fun K hK => ?_)
      go_simp
      refine (markText_any (k0 + 2 * j) _ (by omega)).mono ?_
      rintro e w2 ⟨rfl, b2⟩
      have b2' := of_drew b2
      have hHeld : w2.cell? ⟨b, off + j * 2, none⟩ = some (.string (mtx (k0 + 2 * j))) := (b2'.cell (p := ⟨b, off + j * 2, none⟩) hbl).trans hc0
      refine hK.out _ _ hHeld ?_
      clear hK K
      try simp only [List.getElem_toArray, List.getElem_cons_succ, List.getElem_cons_zero, Act.put, List.setIfInBounds_toArray, List.set_cons_zero, List.set_cons_succ]
      refine Reg.takeT (i := 7) (v := ?_) rfl (by kernel_rfl) (by kernel_rfl) (by kernel_rfl) (by kernel_rfl) (fun _ _ _ h => h) (Or.inl ⟨by rfl, ?_⟩) (by assumption) ?_
      rotate_left 1
      focus (intro w hSw; (try dsimp only at hSw); go_simp; (try with_reducible rfl))
      try simp only [List.getElem_toArray, List.getElem_cons_succ, List.getElem_cons_zero, Act.put, List.setIfInBounds_toArray, List.set_cons_zero, List.set_cons_succ]
      refine Reg.doneT (by kernel_rfl) ?_ _
      clear hHeld
      have HB' := hide (HB.out.trans (b2'.mono HB.out.size))
      have hc1 := (b2'.cell (p := ⟨b, off + j * 2 + 1, none⟩) hbl).trans HC.out
      clear b2 b2' HC hc0
      go_wp2_with fail
      go_roundw
      case rel => exact ⟨j + 1, by omega, by go_num, by rw [E1.out], HB'.out⟩
      case measure => simp [intOf]; omega
    · have e : j = m := by omega
      subst e
      clear hr
      go_wp2_with fail
      go_ret
      exact ⟨rfl, HB.out⟩
theorem lmark0_any (A : Option Addr) (c : Nat) (k0 : Int) (w : World) : Calls Tryz.prog 27 #[.slice A 0 c, .int .i64 k0] w (Pure (.int .i64 k0) w) := by
  go_enter Tryz.func27, Tryz.ntmps27
  go_wp2_with fail
  go_loopw [1, 5] (fun k i wr => i = .int .i64 0 ∧ k = .int .i64 k0 ∧ wr = w) (fun _ _ _ => 0)
  case atStart => exact ⟨rfl, rfl, rfl⟩
  case round =>
    obtain ⟨rfl, rfl, rfl⟩ := hrel
    go_wp2_with fail
    go_ret
    exact ⟨rfl, rfl⟩
/-- Marks on a row, whether it has cells or not. -/
theorem lmarkR_any (base : Nat) (A : Option Addr) (c m : Nat) (cs : List Value) (k0 : Int) (w : World) (h0 : 0 ≤ k0) (hk0 : k0 ≤ 4294967296) (hm : m ≤ 4294967296) (h : Row w base 104 2 A m c cs) :
    Calls Tryz.prog 27 #[.slice A m c, .int .i64 k0] w fun e w' => e = .returned (.int .i64 (k0 + 2 * m)) ∧ Row w' base 104 2 A m c (cellsOf landmarkC (lmarks k0 m)) ∧ Gp (fun k => blk A c = some k) w w' := by
  by_cases hm0 : m = 0
  · subst hm0
    refine (lmark0_any A c k0 w).mono ?_
    rintro e w' ⟨rfl, rfl⟩
    refine ⟨by simp, ?_, Gp.refl _ _⟩
    have hcs : cs = [] := by
      rcases h with ⟨_, _, h⟩ | h
      · exact h
      · have := h.1
        exact List.eq_nil_of_length_eq_zero (by omega)
    rw [hcs] at h
    exact h
  · rcases h with ⟨h1, _⟩ | h
    · exact absurd h1 hm0
    · have hc : c ≠ 0 := by
        rcases h.2 with ⟨_, h2⟩ | ⟨g, cap, cur, e, _, _, hn, _⟩
        · omega
        · injection e with _ _ e3
          omega
      refine (lmark_any base A c m cs k0 w h0 hk0 hm h).mono ?_
      rintro e w' ⟨rfl, ho, hg⟩
      refine ⟨rfl, .inr ho, Gp.of_grown hg ?_⟩
      intro k hk
      cases A with
      | none => cases hk
      | some a =>
        show (if c = 0 then none else some a.block) = some k
        rw [if_neg hc]
        exact hk
end Go.Proofs.YtmglgjchemecjaaGreat.CLmkMarks
/- The laws' comparison and marks on lists of objects. -/
namespace Go.Proofs.YtmglgjchemecjaaGreat.CObjL2
set_option maxRecDepth 200000
open Go.ChangeShapes Go.WideShapes Go.ChangeAt Go.RowKit Kit CFixups CSymbols PObj BObj BObj2 BList CObjValid CSection CSections CMarkText CSymMarks CMarkRows CSecMarks CSecHeld CObject CObject2 CCopyS WObj CObjL
theorem eqObjectS_same (A A' : Option Addr) (os qs : List OV) (c c' : Nat) (w : World) (hr : RdOs w w.heap.size A os) (hr' : RdOs w w.heap.size A' qs) (hd : os.map OV.d = qs.map OV.d) (hm : os.length ≤ maxLen) (hl : ∀ o ∈ os, LimO o) :
    Calls Tryz.prog 25 #[.slice A os.length c, .slice A' qs.length c'] w (Ret (.bool true) w) := by
  unfold maxLen at hm
  have hlen : os.length = qs.length := by simpa using congrArg List.length hd
  rw [← hlen]
  have HL := hide hlen
  have HR := hide hr
  have HR' := hide hr'
  have HLM := hide hl
  have HDD := hide hd
  clear hlen hr hr' hl hd
  have h0 : (((os.length : Nat) : Int) != (os.length : Nat)) = false := by simp
  go_enter Tryz.func25, Tryz.ntmps25
  go_wp2
  clear h0
  go_loopw [5] (fun i wr => ∃ k : Nat, k ≤ os.length ∧ i = .int .i64 k ∧ Below w.heap.size w wr) (fun i _ => os.length - (intOf i).toNat)
  case atStart => exact ⟨0, Nat.zero_le _, rfl, Below.refl _ _⟩
  case round =>
    obtain ⟨k, hk, rfl, hb⟩ := hrel
    have HB := hide hb
    by_cases hlt : k < os.length
    · obtain ⟨b, off, rfl, _, hc⟩ := (HR.out.1.below hb).row objC_len (by decide) hlt
      obtain ⟨b', off', rfl, _, hd'⟩ := (HR'.out.1.below hb).row objC_len (by decide) (show k < qs.length by rw [← HL.out]; exact hlt)
      have hc0 := hc 0 _ rfl
      have hd0 := hd' 0 _ rfl
      have hc1 := hc 1 _ rfl
      have hd1 := hd' 1 _ rfl
      simp only [Nat.add_zero] at hc0 hd0
      have hkq : k < qs.length := by rw [← HL.out]; exact hlt
      have hkd : (os[k]).d = (qs[k]).d := by
        have := congrArg (fun l => l[k]?) HDD.out
        simpa [List.getElem?_map, List.getElem?_eq_getElem hlt, List.getElem?_eq_getElem hkq] using this
      have HM := hide (HLM.out _ (List.getElem_mem hlt))
      have HR1 := hide (((HR.out.2 _ (List.getElem_mem hlt)).below hb).more hb.size)
      have HR2 := hide (((HR'.out.2 _ (List.getElem_mem hkq)).below hb).more hb.size)
      have HD := hide hkd
      clear hc hd' hb hkd
      generalize os[k] = p at *
      generalize qs[k] = q at *
      go_wp2_with fail
      go_still_tail 8, (by kernel_rfl)
      change wpList _ _ _ _ _ wr.drew
      clear hc0 hd0 hc1 hd1
      go_wp2_with fail
      refine (eqObject_same p q _ (by exact HR1.out) (by exact HR2.out) HD.out HM.out).mono ?_
      rintro e w2 ⟨rfl, hb2⟩
      have HB' := hide (HB.out.trans ((of_drew hb2).mono HB.out.size))
      clear hb2
      go_wp2_with fail
      go_roundw
      case rel =>
        exact ⟨k + 1, by omega, by go_num, HB'.out⟩
      case measure => simp [intOf]; omega
    · clear hb
      go_wp2_with fail
      go_ret
      exact ⟨rfl, HB.out⟩
theorem ApO.symm {o p : OV} (h : ApO o p) : ApO p o := fun k h1 h2 => h k h2 h1
/-- One object of a list turns in place. -/
theorem OwnOs.upd {w w' : World} {base c : Nat} {A : Option Addr} {l1 l2 : List OV} {o o' : OV} (h : OwnOs w base A c (l1 ++ o :: l2)) (hc : objC o' = objC o) (hb : ∀ k, oblk o' k → oblk o k) (ho : OwnO w' base o') (g : Gp (oblk o) w w') : OwnOs w' base A c (l1 ++ o' :: l2) := by
  have hne := OwnOs.ne h o (by simp)
  obtain ⟨hr, hw, hp⟩ := h
  obtain ⟨p1, p2, p3⟩ := List.pairwise_append.1 hp
  obtain ⟨p4, p5⟩ := List.pairwise_cons.1 p2
  refine ⟨?_, fun x hx => ?_, ?_⟩
  · have e1 : (l1 ++ o' :: l2).length = (l1 ++ o :: l2).length := by simp
    have e2 : cellsOf objC (l1 ++ o' :: l2) = cellsOf objC (l1 ++ o :: l2) := by simp [cellsOf, hc]
    rw [e1, e2]
    exact Gp.row g hr fun k hk hq => hne k hq hk
  · rcases List.mem_append.1 hx with hx | hx
    · exact (hw x (List.mem_append_left _ hx)).gp g fun k hk => p3 x hx o (by simp) k hk
    · rcases List.mem_cons.1 hx with rfl | hx
      · exact ho
      · exact (hw x (by simp [hx])).gp g fun k hk => ApO.symm (p4 x hx) k hk
  · refine List.pairwise_append.2 ⟨p1, List.pairwise_cons.2 ⟨fun x hx k h1 h2 => p4 x hx k (hb k h1) h2, p5⟩, fun x hx y hy k h1 h2 => ?_⟩
    rcases List.mem_cons.1 hy with rfl | hy
    · exact p3 x hx o (by simp) k h1 (hb k h2)
    · exact p3 x hx y (by simp [hy]) k h1 h2
def wdO (o : OV) : Int := wds o.ps + 4 * o.ys.length
def wdL : List OV → Int
  | [] => 0
  | o :: os => wdO o + wdL os
theorem wdO_nonneg (o : OV) : 0 ≤ wdO o := by
  have := wds_nonneg o.ps
  unfold wdO
  omega
theorem wdL_nonneg : ∀ os, 0 ≤ wdL os
  | [] => Int.le_refl 0
  | o :: os => by
    have := wdL_nonneg os
    have := wdO_nonneg o
    simp only [wdL]
    omega
theorem wdL_app (a b : List OV) : wdL (a ++ b) = wdL a + wdL b := by
  induction a with
  | nil => simp [wdL]
  | cons o os ih =>
    simp only [List.cons_append, wdL, ih]
    omega
theorem wdL_le : ∀ os : List OV, wdL os ≤ 4 * (os.length + sumL (os.map OV.d))
  | [] => by simp [wdL, sumL]
  | o :: os => by
    have h1 := wdL_le os
    have h2 := wds_le o.ps
    have h3 := toty_nonneg o.ys
    simp only [wdL, wdO, List.map_cons, sumL, List.length_cons, ← sum_D, sum] at h1 ⊢
    omega
/-- The objects behind their marks. -/
def mOs (k : Int) : List OV → List OV
  | [] => []
  | o :: os => mO k o :: mOs (k + wdO o) os
theorem mOs_len : ∀ (k : Int) (os : List OV), (mOs k os).length = os.length
  | _, [] => rfl
  | k, o :: os => by simp [mOs, mOs_len]
theorem mOs_snoc : ∀ (k : Int) (os : List OV) (o : OV), mOs k (os ++ [o]) = mOs k os ++ [mO (k + wdL os) o]
  | k, [], o => by simp [mOs, wdL]
  | k, p :: os, o => by
    simp only [List.cons_append, mOs, mOs_snoc, wdL]
    rw [show k + wdO p + wdL os = k + (wdO p + wdL os) from by omega]
theorem objC_mO (k : Int) (o : OV) : objC (mO k o) = objC o := by
  simp [objC, mO, ymarks_len, mSs_len]
theorem lblk_mOs {A : Option Addr} {c : Nat} : ∀ {os : List OV} {k : Int} {j : Nat}, lblk A c (mOs k os) j → lblk A c os j
  | [], _, _, h => h
  | o :: os, k, j, h => by
    rcases h with h | ⟨x, hx, h⟩
    · exact .inl h
    · rcases List.mem_cons.1 hx with rfl | hx
      · exact .inr ⟨o, List.mem_cons_self, oblk_mO h⟩
      · rcases lblk_mOs (A := A) (c := c) (.inr ⟨x, hx, h⟩) with h | ⟨y, hy, h⟩
        · exact .inl h
        · exact .inr ⟨y, List.mem_cons_of_mem _ hy, h⟩
set_option maxHeartbeats 2000000 in
theorem markObjectS_any (base : Nat) (A : Option Addr) (c : Nat) (os : List OV) (k0 : Int) (w : World) (h0 : 0 ≤ k0) (hk0 : k0 + wdL os ≤ 4294967296) (hm : os.length ≤ 1048576) (hy : ∀ o ∈ os, o.ys.length ≤ 4294967296) (h : OwnOs w base A c os) :
    Calls Tryz.prog 26 #[.slice A os.length c, .int .i64 k0] w fun e w' => e = .returned (.int .i64 (k0 + wdL os)) ∧ OwnOs w' base A c (mOs k0 os) ∧ Gp (lblk A c os) w w' := by
  have HO := hide h
  have HY := hide hy
  have HK := hide hk0
  clear h hy hk0
  go_enter Tryz.func26, Tryz.ntmps26
  go_wp2_with fail
  go_loopw [1, 5] (fun x i wi => ∃ (k : Nat), k ≤ os.length ∧ i = .int .i64 k ∧ x = .int .i64 (k0 + wdL (os.take k)) ∧ OwnOs wi base A c (mOs k0 (os.take k) ++ os.drop k) ∧ Gp (lblk A c os) w wi) (fun _ i _ => os.length - (intOf i).toNat)
  case atStart => exact ⟨0, Nat.zero_le _, rfl, by simp [wdL], by simpa [mOs] using HO.out, Gp.refl _ _⟩
  case round =>
    clear HO
    obtain ⟨k, hk, rfl, rfl, ho, hg⟩ := hrel
    have HO := hide ho
    have HG := hide hg
    clear ho hg
    by_cases hlt : k < os.length
    · have hsp : os.drop k = os[k] :: os.drop (k + 1) := List.drop_eq_getElem_cons hlt
      have hl1 : (mOs k0 (os.take k)).length = k := by rw [mOs_len, List.length_take]; omega
      obtain ⟨b, off, hA, hbg, hc⟩ := HO.out.1.rd.row objC_len (by decide) (show k < (mOs k0 (os.take k) ++ os.drop k).length by rw [List.length_append, hl1, hsp]; simp; omega)
      have hel : (mOs k0 (os.take k) ++ os.drop k)[k]'(by rw [List.length_append, hl1, hsp]; simp; omega) = os[k] := by
        rw [List.getElem_append_right (by omega)]
        simp [hl1]
      rw [hel] at hc
      have hc0 := hc 0 _ rfl
      have hc1 := hc 1 _ rfl
      simp only [Nat.add_zero] at hc0
      rw [hsp] at HO
      have HWD := hide (show k0 + wdL (os.take (k + 1)) = (k0 + wdL (os.take k)) + wdO os[k] from by rw [take_succ hlt, wdL_app]; simp only [wdL]; omega)
      have HMS := hide (show mOs k0 (os.take (k + 1)) ++ os.drop (k + 1) = mOs k0 (os.take k) ++ mO (k0 + wdL (os.take k)) os[k] :: os.drop (k + 1) from by rw [take_succ hlt, mOs_snoc]; simp)
      have hle : wdL os = wdL (os.take k) + wdO os[k] + wdL (os.drop (k + 1)) := by
        conv => lhs; rw [← List.take_append_drop k os, wdL_app, hsp]
        simp only [wdL]
        omega
      have hx0 := wdL_nonneg (os.take k)
      have hx1 := wdL_nonneg (os.drop (k + 1))
      have hx2 := wds_nonneg (os[k]).ps
      have hx3 : wdO os[k] = wds (os[k]).ps + 4 * (os[k]).ys.length := rfl
      have HBD := hide (show 0 ≤ k0 + wdL (os.take k) ∧ k0 + wdL (os.take k) + wds (os[k]).ps ≤ 4294967296 ∧ 0 ≤ k0 + wdL (os.take k) + wds (os[k]).ps from by have := HK.out; omega)
      have HOK := hide (HO.out.2.1 os[k] (List.mem_append_right _ List.mem_cons_self))
      have HYK := hide (HY.out _ (List.getElem_mem hlt))
      have HIN := hide (show os[k] ∈ os from List.getElem_mem hlt)
      have HNE := hide (OwnOs.ne HO.out os[k] (List.mem_append_right _ List.mem_cons_self))
      clear hc hel hl1 hle hx0 hx1 hx2 hx3 hsp
      have HA := hide hA
      rw [hA]
      clear hA
      have HDR := hide (rfl : os.drop (k + 1) = os.drop (k + 1))
      generalize hdr : os.drop (k + 1) = dr at HO HMS
      have HDQ := hide hdr
      clear hdr HDR
      generalize mOs k0 (os.take k) = pre at *
      generalize os[k] = o at *
      generalize k0 + wdL (os.take k) = x at *
      go_wp2_with fail
      refine (smark_any base o.A o.c o.ps x wr HBD.out.1 HBD.out.2.1 HOK.out.1).mono ?_
      rintro e w1 ⟨rfl, o1, g1⟩
      have HS1 := hide o1
      have HAP := hide (own_apart HOK.out)
      have HY1 := hide (Gp.row g1 HOK.out.2 HAP.out)
      have HG1 := hide g1
      have hbk : ¬ ssblk o.A o.c o.ps b := fun hq => by
        have := HNE.out b (.inl hq)
        rw [HA.out] at this
        by_cases hc0' : c = 0
        · subst hc0'
          have h0 : (pre ++ o :: dr).length = 0 := Nat.le_zero.1 HO.out.1.cap.1
          simp at h0
        · exact this (by unfold blk; rw [if_neg hc0']; rfl)
      have hd1 : w1.cell? ⟨b, off + k * 2 + 1, none⟩ = some (.slice o.Y o.ys.length o.yc) := (World.cell?_of_block (a := ⟨b, off + k * 2 + 1, none⟩) (g1.block b hbg hbk)).trans hc1
      clear o1 g1 hc0 hc1 hbk
      go_wp2_with fail
      refine (markY_row base o.Y o.yc o.ys.length _ _ w1 HBD.out.2.2 HBD.out.2.1 HYK.out HY1.out).mono ?_
      rintro e w2 ⟨rfl, r2, g2⟩
      have G2 := Gp.of_grown (p := fun k => blk o.Y o.yc = some k) g2 (fun k h => h)
      have HE := hide (show OwnO w2 base (mO x o) from ⟨HS1.out.keep (fun k hk => G2.block k (HS1.out.lt k hk).2 (fun h => HAP.out k h (ssblk_mSs hk))), by simpa [mO, ymarks_len] using r2⟩)
      have HG2 := hide (show Gp (oblk o) wr w2 from (HG1.out.mono (fun k h => .inl h)).trans (G2.mono (fun k h => .inr h)))
      have HU := hide (OwnOs.upd HO.out (objC_mO x o) (fun k h => oblk_mO h) HE.out HG2.out)
      have HGG := hide (HG.out.trans (HG2.out.mono (fun k h => .inr ⟨o, HIN.out, h⟩)))
      have hxe : x + wds o.ps + 4 * (o.ys.length : Int) = x + wdO o := by unfold wdO; omega
      have HXE := hide hxe
      clear r2 g2 G2 HS1 HY1 HG1 HG2 HE HO HG hd1 hxe
      go_wp2_with fail
      refine ⟨⟨k + 1, by omega, by go_num, ?_, ?_, by rw [← HA.out]; exact HGG.out⟩, by simp [intOf]; omega⟩
      · rw [HWD.out, ← HXE.out]
      · rw [HDQ.out, HMS.out, ← HA.out]
        exact HU.out
    · have hke : k = os.length := by omega
      have HF := hide (show OwnOs wr base A c (mOs k0 os) from by
        have h := HO.out
        rw [hke, List.take_length, List.drop_length, List.append_nil] at h
        exact h)
      subst hke
      rw [List.take_length]
      clear HO
      go_wp2_with fail
      go_ret
      exact ⟨rfl, HF.out, HG.out⟩
end Go.Proofs.YtmglgjchemecjaaGreat.CObjL2
/- What comes in: rows of cells that read as the laws' structs. -/
namespace Go.Proofs.YtmglgjchemecjaaGreat.In
set_option maxRecDepth 200000
open Go.ChangeShapes Go.WideShapes Go.ChangeAt Go.RowKit Kit
def I64 (x : Int) : Prop := -9223372036854775808 ≤ x ∧ x ≤ 9223372036854775807
def okRow (z : Int × Int) : Prop := I64 z.1 ∧ I64 z.2
def okFrame (z : Int × Int × Int) : Prop := I64 z.1 ∧ I64 z.2.1 ∧ I64 z.2.2
def okLandmark (z : ByteArray × Int) : Prop := z.1.size ≤ maxLen ∧ I64 z.2
end Go.Proofs.YtmglgjchemecjaaGreat.In
/- What comes in: objects. -/
namespace Go.Proofs.YtmglgjchemecjaaGreat.In
set_option maxRecDepth 200000
open Go.ChangeShapes Go.WideShapes Go.ChangeAt Go.RowKit Kit PObj BObj CFixups CSymbols
/-- A slice of structs inside a value. -/
theorem trd_slice {α : Type} {f : α → List Value} {p : α → Prop} {P : Program} {w : World} {t e : TypeId} {cs : List Value} (ht : P.underlying t = some (.slice e)) (hrow : ∀ cs, cs.length = P.cellsOf e → Trd P w e cs → ∃ x, cs = f x ∧ p x) (h : Trd P w t cs) :
    ∃ (A : Option Addr) (xs : List α) (c : Nat), cs = [.slice A xs.length c] ∧ xs.length ≤ c ∧ c ≤ maxLen ∧ (∀ x ∈ xs, p x) ∧ Rd w w.heap.size A (cellsOf f xs) := by
  obtain ⟨A, n, c, rows, rfl, h1, h2, h3, h4, h5⟩ := h.slice ht
  obtain ⟨xs, rfl, hx⟩ := rows_of (f := f) (p := p) fun r hr => hrow r (h4 r hr).1 (h4 r hr).2
  simp only [List.length_map] at h3
  subst h3
  refine ⟨_, xs, _, rfl, h1, h2, hx, ?_⟩
  simpa [cellsOf, List.flatMap] using h5
theorem fixup_in {w : World} {cs : List Value} (hl : cs.length = Tryz.prog.cellsOf 178) (h : Trd Tryz.prog w 178 cs) : ∃ z : FD, cs = fixupC z ∧ True := by
  rw [show Tryz.prog.cellsOf 178 = 4 by kernel_rfl] at hl
  obtain ⟨_, hf⟩ := Trd.fields Tryz.underlying178 (by kernel_rfl) h
  match cs, hl with
  | [u0, u1, u2, u3], _ =>
    obtain ⟨a, e0, _⟩ := (hf 0 _ rfl _ rfl).int Tryz.underlying3
    obtain ⟨b, e1, _⟩ := (hf 1 _ rfl _ rfl).int Tryz.underlying3
    obtain ⟨c, e2, _⟩ := (hf 2 _ rfl _ rfl).int Tryz.underlying3
    obtain ⟨d, e3, _⟩ := (hf 3 _ rfl _ rfl).int Tryz.underlying3
    simp at e0 e1 e2 e3
    exact ⟨(a, b, c, d), by rw [e0, e1, e2, e3]; rfl, trivial⟩
theorem symbol_in {w : World} {cs : List Value} (hl : cs.length = Tryz.prog.cellsOf 124) (h : Trd Tryz.prog w 124 cs) : ∃ z : YD, cs = symbolC z ∧ z.1.size ≤ maxLen := by
  rw [show Tryz.prog.cellsOf 124 = 4 by kernel_rfl] at hl
  obtain ⟨_, hf⟩ := Trd.fields Tryz.underlying124 (by kernel_rfl) h
  match cs, hl with
  | [u0, u1, u2, u3], _ =>
    obtain ⟨a, e0, h0⟩ := (hf 0 _ rfl _ rfl).str Tryz.underlying9
    obtain ⟨b, e1, _⟩ := (hf 1 _ rfl _ rfl).int Tryz.underlying3
    obtain ⟨c, e2, _⟩ := (hf 2 _ rfl _ rfl).int Tryz.underlying3
    obtain ⟨d, e3, _⟩ := (hf 3 _ rfl _ rfl).int Tryz.underlying3
    simp at e0 e1 e2 e3
    exact ⟨(a, b, c, d), by rw [e0, e1, e2, e3]; rfl, h0⟩
def okS (w : World) (p : SV) : Prop := p.nm.size ≤ maxLen ∧ p.zs.length ≤ maxLen ∧ p.fs.length ≤ maxLen ∧ RdS w w.heap.size p
theorem section_in {w : World} {cs : List Value} (hl : cs.length = Tryz.prog.cellsOf 122) (h : Trd Tryz.prog w 122 cs) : ∃ p : SV, cs = secC p ∧ okS w p := by
  rw [show Tryz.prog.cellsOf 122 = 6 by kernel_rfl] at hl
  obtain ⟨_, hf⟩ := Trd.fields Tryz.underlying122 (by kernel_rfl) h
  match cs, hl with
  | [u0, u1, u2, u3, u4, u5], _ =>
    obtain ⟨nm, e0, h0⟩ := (hf 0 _ rfl _ rfl).str Tryz.underlying9
    obtain ⟨kd, e1, _⟩ := (hf 1 _ rfl _ rfl).int Tryz.underlying3
    obtain ⟨al, e2, _⟩ := (hf 2 _ rfl _ rfl).int Tryz.underlying3
    obtain ⟨A, zs, c, e3, l3, c3, r3, _⟩ := (hf 3 _ rfl _ rfl).ints Tryz.underlying34 Tryz.underlying5
    obtain ⟨sz, e4, _⟩ := (hf 4 _ rfl _ rfl).int Tryz.underlying3
    obtain ⟨F, fs, fc, e5, l5, c5, _, r5⟩ := trd_slice Tryz.underlying120 (fun cs hl h => fixup_in hl h) (hf 5 _ rfl _ rfl)
    simp at e0 e1 e2 e3 e4 e5
    exact ⟨⟨nm, kd, al, A, c, zs, sz, F, fc, fs⟩, by rw [e0, e1, e2, e3, e4, e5]; rfl, h0, Nat.le_trans l3 c3, Nat.le_trans l5 c5, r3, r5⟩
theorem object_in {H : Type} {enc : TypeId × Value → H} {base b0 : Nat} {sp : Nat → Bool} {held : Bool} {r : Reach} {v : Value} {d : DataW H} {ps : List MemPlace} {w : World} (hv : Value.okWide Tryz.prog w r b0 25 v) (h : DataW.Trod enc Tryz.prog w base sp held 25 v d ps) :
    ∃ o : OV, v = o.v ∧ RdO w w.heap.size o ∧ o.ps.length ≤ maxLen ∧ o.ys.length ≤ maxLen ∧ (∀ p ∈ o.ps, p.nm.size ≤ maxLen ∧ p.zs.length ≤ maxLen ∧ p.fs.length ≤ maxLen) ∧ (∀ y ∈ o.ys, y.1.size ≤ maxLen) := by
  obtain ⟨cs, rfl, hsz⟩ := okWide_struct Tryz.underlying25 hv
  obtain ⟨hl, hf⟩ := Trd.fields Tryz.underlying25 (by kernel_rfl) (Trd.of_trod h)
  rw [show Tryz.prog.cellsOf 25 = 2 by kernel_rfl] at hl
  obtain ⟨l⟩ := cs
  simp only [Value.cells] at hl hf
  match l, hl with
  | [u0, u1], _ =>
    obtain ⟨A, qs, c, e0, l0, c0, k0, r0⟩ := trd_slice Tryz.underlying22 (fun cs hl h => section_in hl h) (hf 0 _ rfl _ rfl)
    obtain ⟨Y, ys, yc, e1, l1, c1, k1, r1⟩ := trd_slice Tryz.underlying23 (fun cs hl h => symbol_in hl h) (hf 1 _ rfl _ rfl)
    simp at e0 e1
    subst e0 e1
    exact ⟨⟨A, c, qs, Y, yc, ys⟩, rfl, ⟨⟨r0, fun p hp => (k0 p hp).2.2.2⟩, r1⟩, Nat.le_trans l0 c0, Nat.le_trans l1 c1, fun p hp => ⟨(k0 p hp).1, (k0 p hp).2.1, (k0 p hp).2.2.1⟩, k1⟩
end Go.Proofs.YtmglgjchemecjaaGreat.In
/- The walk of FnExactLandmarksOf. -/
namespace Go.Proofs.YtmglgjchemecjaaGreat.WFnExactLandmarksOf
set_option maxRecDepth 200000
open Go.ChangeShapes Go.WideShapes Go.ChangeAt Go.RowKit Kit CCode CFixups CSymbols PObj BObj PValid CObjValid CSections CObject CObject2 CMarkRows WObj BList CObjL CObjL2 CPlaceS PLmk CLandmarks CLmkMarks CLmkS CLmkI
theorem lst_of {w : World} {base c : Nat} {A : Option Addr} {os qs : List OV} (hd : qs.map OV.d = os.map OV.d) (hs : sizL (os.map OV.d) ≤ 1048576) (ho : OwnOs w base A c qs) : Lst qs ∧ (∀ q ∈ qs, LimO q) ∧ qs.length ≤ 1048576 := by
  rw [← hd] at hs
  have hf : ∀ q ∈ qs, Fit q := fun q hq => (fit_own (sizL_mem hs q hq) (ho.2.1 q hq)).1
  have hl : qs.length ≤ 1048576 := by
    have h1 := sumL_nonneg (qs.map OV.d)
    unfold sizL at hs
    rw [List.length_map] at hs
    omega
  exact ⟨⟨hl, hf, fun q hq => cp_copy rfl (hf q hq) (ho.2.1 q hq)⟩, fun q hq => (sum_lim (sizL_mem hs q hq)).1, hl⟩
set_option maxHeartbeats 4000000 in
theorem walk (A : Option Addr) (os : List OV) (c : Nat) (base : Int) (w : World) (hr : RdOs w w.heap.size A os) (hn : os.length ≤ maxLen) (hl : ∀ o ∈ os, InO o) :
    Calls Tryz.prog 5 #[.slice A os.length c, .int .i64 base] w (LawEnds w) := by
  have HR := hide hr
  have HSZ := hide (szObjectS_any A os c 1048576 w (by omega) (by omega) hr hn hl)
  clear hr hn hl
  go_enter Tryz.func5, Tryz.ntmps5
  go_wp2_with fail
  refine HSZ.out.mono ?_
  rintro e w1 ⟨⟨r, rfl, hcase⟩, b1⟩
  have HB := hide b1
  clear b1 HSZ
  rcases hcase with rfl | ⟨hr0, hsum⟩
  · go_wp2_with fail
    go_ret
    exact ⟨rfl, HB.out⟩
  have HSUM := hide (show sizL (os.map OV.d) ≤ 1048576 from by omega)
  have hos : os.length ≤ 1048576 := by
    have h1 := sumL_nonneg (os.map OV.d)
    have h2 := HSUM.out
    unfold sizL at h2
    rw [List.length_map] at h2
    omega
  have HTO := hide (fun V (hV : Below w.heap.size w V) => toObjectS_any A os c V ((HR.out.below hV).more hV.size) hos (fun o ho => (sum_lim (sizL_mem HSUM.out o ho)).1))
  clear hsum
  go_wp2_with fail
  refine (HTO.out w1 HB.out).mono ?_
  rintro e w2 ⟨A2, c2, os2, rfl, hd2, own2, b2⟩
  have HL2 := hide (lst_of hd2 HSUM.out own2).1
  have HO2 := hide own2
  have HD2 := hide hd2
  replace HB := hide (HB.out.trans (b2.mono HB.out.size))
  clear b2
  clear hd2 own2
  have HLL := hide (show (lmkS (os.map OV.d) base).length ≤ 48 from PLmk2.lmk_len base (fun d _ ho => (PClear.obj_all ho).2.1))
  generalize hls : lmkS (os.map OV.d) base = ls at *
  have HLS := hide hls
  clear hls
  have hl48 := HLL.out
  clear HLL
  go_wp2_with fail
  refine (landmarksOfS_any A2 os2 c2 base w2 HO2.out.rd HL2.out).mono ?_
  rw [HD2.out, HLS.out]
  rintro e w3 ⟨AW, cw, rfl, rw3, b3⟩
  have HW := hide rw3
  have HWB := hide (fun k hk => (rw3.lt k hk).2)
  replace HB := hide (HB.out.trans (b3.mono HB.out.size))
  clear b3
  clear rw3 HO2 HL2 HD2
  have hw3 := HB.out.size
  go_wp2_with fail
  refine (HTO.out w3 HB.out).mono ?_
  rintro e w4 ⟨AX, cx, xs, rfl, hd4, own4, b4⟩
  obtain ⟨hl4, hm4, hn4⟩ := lst_of hd4 HSUM.out own4
  have HL4 := hide hl4
  have HM4 := hide hm4
  have HX := hide own4
  have HXB := hide own4.lt
  have HDX := hide hd4
  have hw34 := b4.size
  replace HB := hide (HB.out.trans (b4.mono HB.out.size))
  replace HW := hide (HW.out.call b4)
  clear b4
  clear hl4 hm4 hd4 own4
  have hw4 := HB.out.size
  go_wp2_with fail
  refine (landmarksOf_any AX xs cx base w4 HX.out.rd HL4.out).mono ?_
  rw [HDX.out, HLS.out]
  rintro e w5 ⟨AG, cg, rfl, rg5, b5⟩
  have HG := hide rg5
  have HGB := hide rg5.lt
  replace HB := hide (HB.out.trans (b5.mono HB.out.size))
  replace HW := hide (HW.out.call b5)
  replace HX := hide (HX.out.call b5)
  clear b5
  clear rg5
  go_wp2_with fail
  refine (eqLandmarkS_same AG AW ls cg cw w5 HG.out.rd HW.out.rd (by unfold maxLen; omega)).mono ?_
  rintro e w6 ⟨rfl, b6⟩
  replace HB := hide (HB.out.trans (b6.mono HB.out.size))
  replace HW := hide (HW.out.call b6)
  replace HX := hide (HX.out.call b6)
  replace HG := hide (HG.out.call b6)
  clear b6
  go_wp2_with fail
  refine (HTO.out w6 HB.out).mono ?_
  rintro e w7 ⟨AY, cy, ys, rfl, hd7, own7, b7⟩
  have HY := hide (And.intro hd7 own7)
  replace HB := hide (HB.out.trans (b7.mono HB.out.size))
  replace HW := hide (HW.out.call b7)
  replace HX := hide (HX.out.call b7)
  replace HG := hide (HG.out.call b7)
  clear b7
  clear hd7 own7
  go_wp2_with fail
  refine (eqObjectS_same AX AY xs ys cx cy w7 HX.out.rd HY.out.2.rd (by rw [HDX.out, HY.out.1]) (by unfold maxLen; omega) HM4.out).mono ?_
  rintro e w8 ⟨rfl, b8⟩
  replace HB := hide (HB.out.trans (b8.mono HB.out.size))
  replace HW := hide (HW.out.call b8)
  replace HX := hide (HX.out.call b8)
  replace HG := hide (HG.out.call b8)
  clear b8
  clear HY
  go_wp2_with fail
  have hwd := wdL_nonneg xs
  have hwl : wdL xs ≤ 4194304 := by
    have h1 := wdL_le xs
    have h2 := HSUM.out
    rw [HDX.out] at h1
    unfold sizL at h2
    rw [List.length_map] at h2
    have h3 : xs.length = os.length := by simpa using congrArg List.length HDX.out
    rw [h3] at h1
    omega
  refine (markObjectS_any w3.heap.size AX cx xs 1 w8 (by omega) (by omega) hn4 (fun o ho => Nat.le_trans (HL4.out.f o ho).ny (by omega)) HX.out).mono ?_
  rintro e w9 ⟨rfl, _, g9⟩
  have HW9 := hide (g9.row HW.out (fun k hk hl => by have h1 := HWB.out k hk; have h2 := (HXB.out k hl).1; omega))
  have HG9 := hide (g9.row HG.out (fun k hk hl => by have h1 := (HGB.out k hk).1; have h2 := (HXB.out k hl).2; omega))
  have HB9 := hide (g9.below HB.out HB.out.size (fun k hk => Nat.le_trans hw3 (HXB.out k hk).1))
  clear g9 HX HW HG HB HXB HM4 HL4
  generalize hkk : 1 + wdL xs = kk at *
  have hk0 : 0 ≤ kk := by omega
  clear hkk hwd hwl
  have hd : decide (kk < 0) = false := decide_eq_false (by omega)
  go_wp2_with fail
  refine (eqLandmarkS_same AG AW ls cg cw w9 HG9.out.rd HW9.out.rd (by unfold maxLen; omega)).mono ?_
  rintro e w10 ⟨rfl, b10⟩
  replace HB9 := hide (HB9.out.trans (b10.mono HB9.out.size))
  replace HW9 := hide (HW9.out.call b10)
  replace HG9 := hide (HG9.out.call b10)
  clear b10
  clear hd hk0
  go_wp2_with fail
  refine (lmarkR_any w4.heap.size AG cg ls.length _ 1 w10 (by omega) (by omega) (by omega) HG9.out).mono ?_
  rintro e w11 ⟨rfl, hmk, g11⟩
  have HM := hide hmk
  have HW := hide (g11.row HW9.out (fun k hk hl => by have h1 := HWB.out k hk; have h2 := (HGB.out k hl).1; omega))
  have HB := hide (g11.below HB9.out HB9.out.size (fun k hk => Nat.le_trans hw4 (HGB.out k hk).1))
  clear g11 hmk HW9 HG9 HB9
  go_wp2_with fail
  refine (lheld_any AG cg ls.length 1 w11 (by omega) (by omega) (by omega) HM.out.rd).mono ?_
  rintro e w12 ⟨rfl, b12⟩
  replace HB := hide (HB.out.trans (b12.mono HB.out.size))
  replace HW := hide (HW.out.call b12)
  replace HM := hide (HM.out.call b12)
  clear b12
  go_wp2_with fail
  refine (HTO.out w12 HB.out).mono ?_
  rintro e w13 ⟨AZ, cz, zs, rfl, hd13, own13, b13⟩
  have HL13 := hide (lst_of hd13 HSUM.out own13).1
  have HO13 := hide own13
  have HD13 := hide hd13
  replace HB := hide (HB.out.trans (b13.mono HB.out.size))
  replace HW := hide (HW.out.call b13)
  replace HM := hide (HM.out.call b13)
  clear b13
  clear hd13 own13
  go_wp2_with fail
  refine (landmarksOf_any AZ zs cz base w13 HO13.out.rd HL13.out).mono ?_
  rw [HD13.out, HLS.out]
  rintro e w14 ⟨AH, ch, rfl, rh, b14⟩
  have HH := hide rh
  replace HB := hide (HB.out.trans (b14.mono HB.out.size))
  replace HW := hide (HW.out.call b14)
  replace HM := hide (HM.out.call b14)
  clear b14
  clear rh HO13 HL13 HD13
  go_wp2_with fail
  refine (eqLandmarkS_same AH AW ls ch cw w14 HH.out.rd HW.out.rd (by unfold maxLen; omega)).mono ?_
  rintro e w15 ⟨rfl, b15⟩
  replace HB := hide (HB.out.trans (b15.mono HB.out.size))
  replace HM := hide (HM.out.call b15)
  clear b15
  clear HH HW
  go_wp2_with fail
  refine (lheld_any AG cg ls.length 1 w15 (by omega) (by omega) (by omega) HM.out.rd).mono ?_
  rintro e w16 ⟨rfl, b16⟩
  replace HB := hide (HB.out.trans (b16.mono HB.out.size))
  clear b16
  go_wp2_with fail
  go_ret
  exact ⟨rfl, HB.out⟩
end Go.Proofs.YtmglgjchemecjaaGreat.WFnExactLandmarksOf
/- What comes in: lists of objects. -/
namespace Go.Proofs.YtmglgjchemecjaaGreat.In
set_option maxRecDepth 200000
open Go.ChangeShapes Go.WideShapes Go.ChangeAt Go.RowKit Kit PObj BObj CFixups CSymbols BList
theorem objc_in {w : World} {cs : List Value} (hl : cs.length = Tryz.prog.cellsOf 25) (h : Trd Tryz.prog w 25 cs) : ∃ o : OV, cs = objC o ∧ (RdO w w.heap.size o ∧ CObjL.InO o) := by
  rw [show Tryz.prog.cellsOf 25 = 2 by kernel_rfl] at hl
  obtain ⟨_, hf⟩ := Trd.fields Tryz.underlying25 (by kernel_rfl) h
  match cs, hl with
  | [u0, u1], _ =>
    obtain ⟨A, qs, c, e0, l0, c0, k0, r0⟩ := trd_slice Tryz.underlying22 (fun cs hl h => section_in hl h) (hf 0 _ rfl _ rfl)
    obtain ⟨Y, ys, yc, e1, l1, c1, k1, r1⟩ := trd_slice Tryz.underlying23 (fun cs hl h => symbol_in hl h) (hf 1 _ rfl _ rfl)
    simp at e0 e1
    subst e0 e1
    exact ⟨⟨A, c, qs, Y, yc, ys⟩, rfl, ⟨⟨r0, fun p hp => (k0 p hp).2.2.2⟩, r1⟩, Nat.le_trans l0 c0, Nat.le_trans l1 c1, fun p hp => ⟨(k0 p hp).1, (k0 p hp).2.1, (k0 p hp).2.2.1⟩, k1⟩
end Go.Proofs.YtmglgjchemecjaaGreat.In
