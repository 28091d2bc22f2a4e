/- LandmarksOf: the program's. -/
import Derived.Test.YtmglgjchemecjaaFnLandmarksOfM9
import Derived.Test.YtmglgjchemecjaaRows
import Derived.Deep.QuietTactic
import Derived.BigQuiet
import Derived.StillTailTactics
import Derived.Deep.RegionHeld3
set_option linter.unusedSimpArgs false
set_option linter.unusedVariables false
namespace Go.Proofs.Ytmglgjchemecjaa.CLmkI
set_option maxRecDepth 200000
open Go.ChangeShapes Go.WideShapes Go.ChangeAt Go.RowKit Kit CCode CName CFixups CSymbols PObj BObj PValid CObjValid BStore CMarkRows BList PLink PLinkL CFind CPlaceL CSorted CNames CLayout CObjL COwnL CPlaceS CAllPl CNPlS PIns CNGS CNamesOf CLandmarks PLmk PLmk2 PStab CStab7 CLmkS
theorem srt_le (ns : List ByteArray) : (srtN ns).length ≤ ns.length := by
  rw [← all_srt]
  exact insAll_len ns
set_option maxHeartbeats 8000000 in
theorem landmarksOf_any (A : Option Addr) (os : List OV) (c : Nat) (base : Int) (w : World) (hr : RdOs w w.heap.size A os) (hf : Lst os) :
    Calls Try.prog 37 #[.slice A os.length c, .int .i64 base] w (RetK (lmkS (os.map OV.d) base) w) := by
  obtain ⟨i0, hi1, hi2, hi3, hi4⟩ := info_parts CLandmarks.info
  have HI := hide (And.intro hi1 (And.intro hi2 (And.intro hi3 hi4)))
  clear hi1 hi2 hi3 hi4
  obtain ⟨j0, hj1, hj2, hj3, hj4⟩ := info_parts infoStr
  have HJ := hide (And.intro hj1 (And.intro hj2 (And.intro hj3 hj4)))
  clear hj1 hj2 hj3 hj4
  have HR := hide hr
  have HF := hide hf
  have hn20 := hf.n
  have HLN := hide (show Lens os from ⟨hf.n, fun o h => (hf.f o h).ny⟩)
  clear hr hf
  have HB := hide (show Below w.heap.size w (w.alloc (.cells #[] 63)) from (by repeat (first | exact Below.refl _ _ | with_reducible assumption | (refine Below.drew ?_) | (refine Below.drewN ?_ _) | (refine Below.alloc ?_ (by simp; try omega) _) | (refine Below.setCell ?_ (by simp; try omega) _))))
  go_enter Try.func37, Try.ntmps37
  go_wp2_with fail
  have hgs : w.heap.size < (w.alloc (.cells #[] 63)).heap.size := by simp
  generalize w.alloc (.cells #[] 63) = w0 at *
  refine (layoutOf_any A os c base w0 ((HR.out.below HB.out).more HB.out.size) HF.out.fits).mono ?_
  rintro e w1 ⟨PA, pc, rs, E, ec, es, rfl, hyes, hP, hE, b1⟩
  have HYES := hide hyes
  have HP := hide hP
  have hgs1 : w.heap.size < w1.heap.size := Nat.lt_of_lt_of_le hgs b1.size
  replace HB := hide (HB.out.trans (b1.mono HB.out.size))
  clear b1
  clear hyes hP hE hgs
  cases hok : (objsOk (os.map OV.d) && baseOk base)
  · have HV := hide (lmk_bad hok)
    have HB2 := hide (HB.out.alloc HB.out.size (.cells #[.slice PA rs.length pc, .slice E es.length ec] 101))
    clear hok
    go_wp2_with fail
    go_ret
    rw [HV.out]
    exact ⟨_, _, rfl, Row.empty _ _ _ _ _, HB2.out⟩
  obtain ⟨hrz, hx⟩ := HYES.out hok
  clear HYES hx
  have HV := hide (lmk_ok hok)
  have hok' := hok
  rw [Bool.and_eq_true] at hok'
  obtain ⟨ho, hbs⟩ := hok'
  have hb0 : 0 ≤ base ∧ base ≤ 4096 := by
    simp only [baseOk, Bool.and_eq_true, decide_eq_true_eq] at hbs
    exact hbs.1
  have HPL := hide (all_pl2 ho hb0.1 hb0.2 hrz)
  have HRZ := hide hrz
  have HOK := hide ho
  have HNE := hide (names_eq ho)
  have HNF := hide (names_found ho)
  have HOB := hide (lst_objs ho)
  have h4 := (lst_objs ho).1
  have HX := hide ((Box.new w1 101 #[.slice PA rs.length pc, .slice E es.length ec]).alloc (.cells #[] 9))
  have HB2 := hide ((HB.out.alloc HB.out.size (.cells #[.slice PA rs.length pc, .slice E es.length ec] 101)).alloc (by have := HB.out.size; simp; omega) (.cells #[] 9))
  have HB1 := hide (show Below w1.heap.size w1 ((w1.alloc (.cells #[.slice PA rs.length pc, .slice E es.length ec] 101)).alloc (.cells #[] 9)) from (by repeat (first | exact Below.refl _ _ | with_reducible assumption | (refine Below.drew ?_) | (refine Below.drewN ?_ _) | (refine Below.alloc ?_ (by simp; try omega) _) | (refine Below.setCell ?_ (by simp; try omega) _))))
  clear hok ho hbs hb0 hrz HB
  go_wp2_with fail
  generalize hw2 : (w1.alloc (.cells #[.slice PA rs.length pc, .slice E es.length ec] 101)).alloc (.cells #[] 9) = w2 at *
  clear hw2
  generalize hX0 : w1.heap.size = X0 at *
  have HX0 := hide hX0
  clear hX0
  go_loopw [8, 28] (fun s i wi => ∃ (k : Nat) (A1 : Option Addr) (c1 : Nat) (ns : List ByteArray), k ≤ os.length ∧ s = .slice A1 ns.length c1 ∧ i = .int .i64 k ∧ ns = (os.take k).flatMap (fun o => srtN (givS o.d.ys)) ∧ ns.length ≤ 12 * k ∧ Row wi X0 9 1 A1 ns.length c1 (nmC ns) ∧ Box wi X0 101 #[.slice PA rs.length pc, .slice E es.length ec] ∧ Below w.heap.size w wi ∧ Below X0 w1 wi) (fun _ i _ => os.length - (intOf i).toNat)
  case atStart => exact ⟨0, _, 0, [], Nat.zero_le _, rfl, rfl, rfl, Nat.le_refl _, Row.empty _ _ _ _ _, HX.out, HB2.out, HB1.out⟩
  case round =>
    rename World => wk
    clear HX HB2 HB1
    obtain ⟨k, A1, c1, ns, hk, rfl, rfl, hns, hnl, hrow, hbox, hb, hb1⟩ := hrel
    have HNS := hide hns
    have HW := hide hrow
    have HX := hide hbox
    have HB := hide hb
    have HB1 := hide hb1
    clear hns hrow hbox hb1
    by_cases hlt : k < os.length
    · obtain ⟨bb, off, hA, hbb, hc0, hc1⟩ := (HR.out.below hb).at hlt
      have hyl := (HOB.out.2 _ (List.getElem_mem hlt)).2
      have HTK := hide (show (os.take (k + 1)).flatMap (fun o => srtN (givS o.d.ys)) = ns ++ srtN (givS os[k].ys) from by rw [take_succ hlt, List.flatMap_append, HNS.out]; simp [OV.d])
      have HRO := hide (((HR.out.2 _ (List.getElem_mem hlt)).below HB.out).more HB.out.size)
      clear hb
      subst hA
      generalize os[k] = o at *
      have B1 : Below wk.heap.size wk (wk.alloc (.cells #[.slice o.A o.ps.length o.c, .slice o.Y o.ys.length o.yc] 26)) := (by repeat (first | exact Below.refl _ _ | with_reducible assumption | (refine Below.drew ?_) | (refine Below.drewN ?_ _) | (refine Below.alloc ?_ (by simp; try omega) _) | (refine Below.setCell ?_ (by simp; try omega) _)))
      have HO := hide (Box.new wk 26 #[.slice o.A o.ps.length o.c, .slice o.Y o.ys.length o.yc])
      have HRY := hide (HRO.out.2)
      replace HW := hide (HW.out.call B1)
      replace HX := hide (HX.out.call B1)
      replace HB := hide (HB.out.trans (B1.mono HB.out.size))
      replace HB1 := hide (HB1.out.trans (B1.mono (by have := HB1.out.size; have := HX0.out; omega)))
      replace HRY := hide ((HRY.out.below B1).more B1.size)
      have o1 := HO.out.cell 1
      simp only [List.getElem?_toArray, List.getElem?_cons_zero, List.getElem?_cons_succ] at o1
      have hol := HO.out.lt
      go_wp2_with fail
      clear hc0 hc1 B1 o1 hol HO HRO
      generalize wk.alloc (.cells #[.slice o.A o.ps.length o.c, .slice o.Y o.ys.length o.yc] 26) = wa at *
      refine (namesOf_any _ o.ys _ wa HRY.out (by omega)).mono ?_
      rintro e w4 ⟨GA, gc, rfl, rg, b4⟩
      have HG := hide rg
      have hgl := srt_le (givS o.ys)
      have hgl2 := givS_len o.ys
      replace HX := hide (HX.out.call b4)
      replace HW := hide (HW.out.call b4)
      replace HB1 := hide (HB1.out.trans (b4.mono (by have := HB1.out.size; have := HX0.out; omega)))
      replace HB := hide (HB.out.trans (b4.mono HB.out.size))
      clear b4 rg HRY
      generalize srtN (givS o.ys) = ms at *
      go_wp2_with (at_builtin; refine wpList_app w4 rfl (.tmp 32) (.tmp 35) 64 rfl 9 j0 (.string ByteArray.empty) 1 16 Try.underlying64 HJ.out.1 HJ.out.2.1 HJ.out.2.2.1 HJ.out.2.2.2 rfl (by decide) X0 A1 ns.length c1 (nmC ns) rfl HW.out ?hs GA ms.length gc (nmC ms) rfl HG.out.rd ?hl HG.out.nil ?o1 ?n1 ?n2 ?_)
      case hs => have := HX.out.lt; omega
      case hl => simp [nmC]
      case o1 => exact CInsS.one_nm ms
      case n1 => unfold maxLen; omega
      case n2 => omega
      intro A3 n3 c3 w5 hn o3 g3 k3
      subst hn
      have hwx : w.heap.size ≤ X0 := by have := HX0.out; omega
      have HX3 := hide (HX.out.grown g3 (HW.out.box HX.out (by decide)))
      have HB3 := hide (HB.out.grown g3 HB.out.size (fun j hj => Nat.le_trans hwx (HW.out.lt j hj).1))
      have HB13 := hide (HB1.out.grown g3 (by have := HX.out.lt; omega) (fun j hj => (HW.out.lt j hj).1))
      have HW3 := hide (show Row w5 X0 9 1 A3 (ns.length + ms.length) c3 (nmC (ns ++ ms)) from by
        have e : nmC (ns ++ ms) = nmC ns ++ nmC ms := by simp [nmC]
        rw [e]
        exact o3)
      clear o3 g3 k3 HX HB HB1 HW HG hwx
      go_wp2_with fail
      refine ⟨⟨k + 1, A3, c3, ns ++ ms, by omega, by simp, by go_num, HTK.out.symm, by simp; omega, by simpa using HW3.out, HX3.out, HB3.out, HB13.out⟩, by simp [intOf]; omega⟩
    · have hke : k = os.length := by omega
      have HMS := hide (show srtN ns = namesL (os.map OV.d) from by
        rw [← HNE.out, HNS.out, hke, List.take_length, List.flatMap_map])
      have hn48 : ns.length ≤ 48 := by omega
      clear hb hke HNS
      go_wp2_with fail
      refine (sorted_any ns A1 c1 X0 wk HW.out (by omega)).mono ?_
      rintro e w4 ⟨NA, nc, rfl, rn, b4⟩
      have hm48 := srt_le ns
      have hxw : X0 ≤ wk.heap.size := Nat.le_of_lt HX.out.lt
      have HXX := hide (HX.out.call b4)
      have HNR := hide rn
      have HAP := hide (show ∀ k, blk NA nc = some k → X0 ≤ k from fun j hj => Nat.le_trans (by have := HX.out.lt; omega) (rn.lt j hj).1)
      replace HB := hide (HB.out.trans (b4.mono HB.out.size))
      replace HB1 := hide (HB1.out.trans (b4.mono (by have := HX.out.lt; omega)))
      clear b4 rn HW HX
      have HAP2 := hide (show Apart (some ⟨w.heap.size, 0, none⟩) 0 NA nc from by
        intro j h1 h2
        have h3 := HAP.out j h2
        have h4 := HX0.out
        have h5 : j = w.heap.size := by
          first
            | (cases h1; done)
            | (simpa [blk] using h1.symm)
        omega)
      rw [HMS.out] at HNR hm48
      rw [show srtN ns = namesL (os.map OV.d) from HMS.out]
      clear HMS HNE HAP
      have hml : (namesL (os.map OV.d)).length ≤ 48 := by omega
      generalize hms : namesL (os.map OV.d) = ms at *
      have HMS := hide hms
      clear hms hm48
      go_wp2_with fail
      go_loopw [5, 41] (fun s i wi => ∃ (k ga c2 : Nat) (L : List LD), k ≤ ms.length ∧ s = .slice (some ⟨ga, 0, none⟩) L.length c2 ∧ i = .int .i64 k ∧ L = (ms.take k).map (atP (os.map OV.d) base) ∧ L.length ≤ 48 ∧ w.heap.size ≤ ga ∧ ga < wi.heap.size ∧ Row wi X0 63 2 (some ⟨ga, 0, none⟩) L.length c2 (cellsOf landmarkC L) ∧ Apart (some ⟨ga, 0, none⟩) c2 NA nc ∧ Row wi X0 9 1 NA ms.length nc (nmC ms) ∧ Box wi X0 101 #[.slice PA rs.length pc, .slice E es.length ec] ∧ Below w.heap.size w wi ∧ Below X0 w1 wi) (fun _ i _ => ms.length - (intOf i).toNat)
      case atStart => exact ⟨0, w.heap.size, 0, [], Nat.zero_le _, rfl, rfl, rfl, by simp, Nat.le_refl _, by have := HXX.out.lt; have := HX0.out; omega, Row.empty _ _ _ _ _, HAP2.out, HNR.out.down hxw, HXX.out, HB.out, HB1.out⟩
      case round =>
        rename World => wi
        clear HAP2 HNR HXX HB HB1 hxw
        obtain ⟨k, ga, c2, L, hk2, rfl, rfl, hL, hL48, hga, hgl, hrow, hap, hnr, hbox, hb, hb1⟩ := hrel
        have HL := hide hL
        have HW := hide hrow
        have HAP := hide hap
        have HNR := hide hnr
        have HX := hide hbox
        have HB := hide hb
        have HB1 := hide hb1
        clear hL hrow hap hnr hbox hb hb1
        by_cases hlt2 : k < ms.length
        · obtain ⟨nb, no, hNA, hnb, hcn⟩ := HNR.out.rd k (.string ms[k]) (by simp [nmC, List.getElem?_eq_getElem hlt2])
          have HLX := hide (show (ms.take (k + 1)).map (atP (os.map OV.d) base) = L ++ [atP (os.map OV.d) base ms[k]] from by rw [take_succ hlt2, List.map_append, HL.out]; rfl)
          obtain ⟨gg, hgg⟩ := Option.isSome_iff_exists.1 (HNF.out ms[k] (List.getElem_mem hlt2))
          have hLk : L.length = k := by rw [HL.out, List.length_map, List.length_take]; omega
          have HLk := hide hLk
          subst hNA
          generalize ms[k] = nm at *
          obtain ⟨hgk, hgj, hpo, htg⟩ := found_at HPL.out hgg
          have HAT := hide (show atP (os.map OV.d) base nm = (nm, tgY (rs.map RV.zs) gg.1 (os[gg.1]).ys[gg.2]) from by
            unfold atP
            rw [hgg, ← HRZ.out, htg])
          have HFN := hide (findName_any A os c nm wi ((HR.out.below HB.out).more HB.out.size) HLN.out)
          rw [hgg] at HFN
          obtain ⟨g1, g2⟩ := gg
          simp only [givV, gin, gat, Option.isSome] at HFN
          simp only at hgk hgj hpo HAT
          have HPO := hide hpo
          have hx1 := HX.out.lt
          have hXs : X0 ≤ w1.heap.size ∧ w1.heap.size ≤ X0 := ⟨by have := HX0.out; omega, by have := HX0.out; omega⟩
          clear htg hpo hgg hLk HL
          go_wp2_with fail
          refine HFN.out.mono ?_
          rintro e w5 ⟨rfl, b5⟩
          replace HW := hide (HW.out.call b5)
          replace HNR := hide (HNR.out.call b5)
          replace HX := hide (HX.out.call b5)
          replace HB := hide (HB.out.trans (b5.mono HB.out.size))
          replace HB1 := hide (HB1.out.trans (b5.mono (Nat.le_of_lt hx1)))
          have hgl5 : ga < w5.heap.size := Nat.lt_of_lt_of_le hgl b5.size
          clear b5 HFN hcn hgl hnb
          have B6 : Below w5.heap.size w5 (w5.alloc (.cells #[.int .i64 g1, .int .i64 g2] 117)) := (by repeat (first | exact Below.refl _ _ | with_reducible assumption | (refine Below.drew ?_) | (refine Below.drewN ?_ _) | (refine Below.alloc ?_ (by simp; try omega) _) | (refine Below.setCell ?_ (by simp; try omega) _)))
          have HG := hide (Box.new w5 117 #[.int .i64 g1, .int .i64 g2])
          have hx5 := HX.out.lt
          replace HW := hide (HW.out.call B6)
          replace HNR := hide (HNR.out.call B6)
          replace HX := hide (HX.out.call B6)
          replace HB := hide (HB.out.trans (B6.mono HB.out.size))
          replace HB1 := hide (HB1.out.trans (B6.mono (Nat.le_of_lt hx5)))
          have hgl6 : ga < (w5.alloc (.cells #[.int .i64 g1, .int .i64 g2] 117)).heap.size := Nat.lt_of_lt_of_le hgl5 B6.size
          have HPC := hide (placeOf_any PA rs pc E es.length ec A os c g1 g2 (w5.alloc (.cells #[.int .i64 g1, .int .i64 g2] 117)) ((HP.out.below HB1.out).more (Nat.le_of_lt HX.out.lt)) ((HR.out.below HB.out).more HB.out.size) hgk hgj ⟨HLN.out.1, HLN.out.2 _ (List.getElem_mem hgk)⟩ HPO.out)
          generalize tgY (rs.map RV.zs) g1 (os[g1]).ys[g2] = v at *
          clear B6 HPO hgj hgk
          have x0 := HX.out.cell 0
          have x1 := HX.out.cell 1
          simp only [List.getElem?_toArray, List.getElem?_cons_zero, List.getElem?_cons_succ] at x0 x1
          have y0 := HG.out.cell 0
          have y1 := HG.out.cell 1
          simp only [List.getElem?_toArray, List.getElem?_cons_zero, List.getElem?_cons_succ] at y0 y1
          have hxl := HX.out.lt
          have hyl := HG.out.lt
          go_wp2_with fail
          clear x0 x1 y0 y1 hxl hyl HG
          generalize w5.alloc (.cells #[.int .i64 g1, .int .i64 g2] 117) = w6 at *
          refine HPC.out.mono ?_
          rintro e w7 ⟨rfl, b7⟩
          have hx6 := HX.out.lt
          replace HW := hide (HW.out.call b7)
          replace HNR := hide (HNR.out.call b7)
          replace HX := hide (HX.out.call b7)
          replace HB := hide (HB.out.trans (b7.mono HB.out.size))
          replace HB1 := hide (HB1.out.trans (b7.mono (Nat.le_of_lt hx6)))
          have hgl7 : ga < w7.heap.size := Nat.lt_of_lt_of_le hgl6 b7.size
          clear b7 HPC hgl6 hx6
          go_wp2_with (at_builtin; refine wpList_app (w7.alloc (.cells #[.string nm, .int .i64 v] 63)) rfl (.tmp 51) (.tmp 58) 57 rfl 63 i0 (.agg #[.string ByteArray.empty, .int .i64 0]) 2 24 Try.underlying57 HI.out.1 HI.out.2.1 HI.out.2.2.1 HI.out.2.2.2 rfl (by decide) X0 (some ⟨ga, 0, none⟩) L.length c2 (cellsOf landmarkC L) rfl (HW.out.alloc _) ?hb (some ⟨w7.heap.size, 0, none⟩) 1 1 [.string nm, .int .i64 v] rfl (rd_lit w7 #[.string nm, .int .i64 v] 63 _ rfl) rfl (fun h => by cases h) ?o1 ?n1 ?n2 ?_)
          case hb => have h := HX.out.lt; simp; omega
          case o1 => exact one_lmk1 nm v
          case n1 => unfold maxLen; omega
          case n2 => omega
          intro A3 n3 c3 w8 hn o3 g3 k3
          subst hn
          have B8 : Below w7.heap.size w7 (w7.alloc (.cells #[.string nm, .int .i64 v] 63)) := (by repeat (first | exact Below.refl _ _ | with_reducible assumption | (refine Below.drew ?_) | (refine Below.drewN ?_ _) | (refine Below.alloc ?_ (by simp; try omega) _) | (refine Below.setCell ?_ (by simp; try omega) _)))
          have hx7 := HX.out.lt
          have hwx : w.heap.size ≤ X0 := by have := HX0.out; omega
          have HX8 := hide ((HX.out.call B8).grown g3 ((HW.out.call B8).box (HX.out.call B8) (by decide)))
          have HB8 := hide ((HB.out.trans (B8.mono HB.out.size)).grown g3 (HB.out.trans (B8.mono HB.out.size)).size (fun j hj => Nat.le_trans hwx (HW.out.lt j hj).1))
          have HB18 := hide ((HB1.out.trans (B8.mono (Nat.le_of_lt hx7))).grown g3 (Nat.le_of_lt (HX.out.call B8).lt) (fun j hj => (HW.out.lt j hj).1))
          have HNR8 := hide ((HNR.out.call B8).grown g3 (fun j hj e => HAP.out j e hj))
          have HAP8 := hide (show Apart A3 c3 (some ⟨nb, no, none⟩) nc from by
            intro j h1 h2
            rcases k3 j h1 with h3 | h3
            · exact HAP.out j h3 h2
            · have := (HNR.out.lt j h2).2
              omega)
          obtain ⟨g', hA', hgx, hgy, _, _⟩ := own_of o3 (by omega)
          subst hA'
          have HW8 := hide (show Row w8 X0 63 2 (some ⟨g', 0, none⟩) (L.length + 1) c3 (cellsOf landmarkC (L ++ [(nm, v)])) from by
            simpa [cellsOf, landmarkC] using o3)
          have HLX2 := hide (show L ++ [(nm, v)] = (ms.take (k + 1)).map (atP (os.map OV.d) base) from by rw [HLX.out, HAT.out])
          have hll : (L ++ [(nm, v)]).length = L.length + 1 := by simp
          have hl48 : L.length + 1 ≤ 48 := by have := HLk.out; omega
          have hgz : w.heap.size ≤ g' := Nat.le_trans hwx hgx
          clear o3 g3 k3 B8 HW HNR HX HB HB1 HAP HLX HAT hgl7 hx7
          generalize L ++ [(nm, v)] = L' at *
          have HLL := hide hll
          clear hll
          go_wp2_with fail
          refine ⟨⟨k + 1, g', c3, L', by omega, by rw [HLL.out], by go_num, HLX2.out, by rw [HLL.out]; exact hl48, hgz, hgy, by rw [HLL.out]; exact HW8.out, HAP8.out, HNR8.out, HX8.out, HB8.out, HB18.out⟩, by simp [intOf]; omega⟩
        · have hke : k = ms.length := by omega
          have HLE := hide (show L = ms.map (atP (os.map OV.d) base) from by rw [HL.out, hke, List.take_length])
          have HCR := hide (show Crs L from by
            rw [HLE.out, ← HMS.out]
            exact lmk_crs _ _)
          have hwx : w.heap.size ≤ X0 := by have := HX0.out; omega
          have HST := hide (sortRow_any w.heap.size ga c2 L wi (HW.out.down hwx) ⟨hga, hgl⟩ HCR.out (by omega))
          have HV2 := hide (fun (M : List LD) (hp : M.Perm L) (hs : Srt M) => (show M = lmkS (os.map OV.d) base from by
            rw [HV.out, ← HLE.out]
            exact sort_is HCR.out hp hs))
          have HLP := hide (fun (M : List LD) (hp : M.Perm L) => hp.length_eq)
          clear hke HL HW HNR HX HB1 HAP HCR HLE
          go_wp2_with fail
          refine HST.out.mono ?_
          rintro e w7 ⟨rfl, M, hp, hs, hrow, hbel⟩
          have HRM := hide hrow
          have HBM := hide (HB.out.trans hbel)
          have HML := hide (HLP.out M hp)
          have HMV := hide (HV2.out M hp hs)
          clear hrow hbel hp hs HV2 HLP HST
          go_wp2_with fail
          go_ret
          rw [← HMV.out]
          exact ⟨_, c2, by rw [HML.out]; rfl, HRM.out, HBM.out⟩
end Go.Proofs.Ytmglgjchemecjaa.CLmkI
/- NamePlaces: the program's. -/
namespace Go.Proofs.Ytmglgjchemecjaa.CNPlI
set_option maxRecDepth 200000
open Go.ChangeShapes Go.WideShapes Go.ChangeAt Go.RowKit Kit CCode CName CFixups CSymbols PObj BObj PValid CObjValid BStore CMarkRows BList PLink PLinkL CFind CPlaceL CSorted CNames CLayout CObjL COwnL CPlaceS CAllPl CNPlS
set_option maxHeartbeats 8000000 in
theorem namePlacesI_any (A : Option Addr) (os : List OV) (c : Nat) (base : Int) (NA : Option Addr) (ns : List ByteArray) (nc : Nat) (w : World) (hr : RdOs w w.heap.size A os) (hf : Lst os) (hns : Rd w w.heap.size NA (nmC ns)) (hm : ns.length ≤ 1000) :
    Calls Try.prog 39 #[.slice A os.length c, .int .i64 base, .slice NA ns.length nc] w (NPlV (plcs (os.map OV.d) base ns) w) := by
  obtain ⟨i0, hi1, hi2, hi3, hi4⟩ := info_parts CInts.info64
  have HI := hide (And.intro hi1 (And.intro hi2 (And.intro hi3 hi4)))
  clear hi1 hi2 hi3 hi4
  have HR := hide hr
  have HF := hide hf
  have HNS := hide hns
  have HLN := hide (show Lens os from ⟨hf.n, fun o h => (hf.f o h).ny⟩)
  clear hr hf hns
  go_enter Try.func39, Try.ntmps39
  go_wp2_with fail
  refine (layoutOf_any A os c base w HR.out HF.out.fits).mono ?_
  rintro e w1 ⟨PA, pc, rs, E, ec, es, rfl, hyes, hP, hE, b1⟩
  have HYES := hide hyes
  have HP := hide hP
  have HB := hide b1
  clear hyes hP hE b1
  cases hok : (objsOk (os.map OV.d) && baseOk base)
  · have HV := hide (show plcs (os.map OV.d) base ns = none from if_neg (fun h => by rw [h.1] at hok; cases hok))
    have HB2 := hide (HB.out.alloc HB.out.size (.cells #[.slice PA rs.length pc, .slice E es.length ec] 101))
    clear hok
    go_wp2_with fail
    go_ret2
    exact ⟨none, 0, [], by rw [HV.out]; rfl, .inr ⟨HV.out, rfl⟩, Row.empty _ _ _ _ _, HB2.out⟩
  obtain ⟨hrz, hx⟩ := HYES.out hok
  clear HYES hx
  have hok' := hok
  rw [Bool.and_eq_true] at hok'
  obtain ⟨ho, hbs⟩ := hok'
  have hb0 : 0 ≤ base ∧ base ≤ 4096 := by
    simp only [baseOk, Bool.and_eq_true, decide_eq_true_eq] at hbs
    exact hbs.1
  have HPL := hide (all_pl2 ho hb0.1 hb0.2 hrz)
  have HRZ := hide hrz
  have HOK := hide hok
  have HX := hide ((Box.new w1 101 #[.slice PA rs.length pc, .slice E es.length ec]).alloc (.cells #[] 3))
  have HB2 := hide ((HB.out.alloc HB.out.size (.cells #[.slice PA rs.length pc, .slice E es.length ec] 101)).alloc (by have := HB.out.size; simp; omega) (.cells #[] 3))
  have HB1 := hide (show Below w1.heap.size w1 ((w1.alloc (.cells #[.slice PA rs.length pc, .slice E es.length ec] 101)).alloc (.cells #[] 3)) from (by repeat (first | exact Below.refl _ _ | with_reducible assumption | (refine Below.drew ?_) | (refine Below.drewN ?_ _) | (refine Below.alloc ?_ (by simp; try omega) _) | (refine Below.setCell ?_ (by simp; try omega) _))))
  have hww := HB.out.size
  clear hok ho hbs hb0 hrz HB
  go_wp2_with fail
  generalize hw2 : (w1.alloc (.cells #[.slice PA rs.length pc, .slice E es.length ec] 101)).alloc (.cells #[] 3) = w2 at *
  clear hw2
  generalize hX0 : w1.heap.size = X0 at *
  have HX0 := hide hX0
  have HWW := hide hww
  clear hX0 hww
  go_loopw [10, 26] (fun s i wi => ∃ (k : Nat) (A1 : Option Addr) (c1 : Nat) (zs : List Int), k ≤ ns.length ∧ s = .slice A1 zs.length c1 ∧ i = .int .i64 k ∧ (∀ n ∈ ns.take k, (findN (os.map OV.d) n).isSome = true) ∧ zs = (ns.take k).map (fun n => tgO (os.map OV.d) (rs.map RV.zs) (findN (os.map OV.d) n)) ∧ zs.length = k ∧ Row wi X0 3 1 A1 zs.length c1 (ints .i64 zs) ∧ Box wi X0 101 #[.slice PA rs.length pc, .slice E es.length ec] ∧ Below X0 w1 wi ∧ Below w.heap.size w wi) (fun _ i _ => ns.length - (intOf i).toNat)
  case atStart => exact ⟨0, _, 0, [], Nat.zero_le _, rfl, rfl, (fun n hn => by cases hn), rfl, rfl, Row.empty _ _ _ _ _, HX.out, HB1.out, HB2.out⟩
  case round =>
    rename World => wk
    clear HB2 HB1 HX
    obtain ⟨k, A1, c1, zs, hk, rfl, rfl, hall, hzs, hzl, hrow, hbox, hb1, hb⟩ := hrel
    have HALL := hide hall
    have HZS := hide hzs
    have HZL := hide hzl
    have HW := hide hrow
    have HX := hide hbox
    have HB1 := hide hb1
    have HB := hide hb
    have hz1000 : zs.length ≤ 1000 := by omega
    clear hall hzs hzl hrow hb1 hbox
    by_cases hlt : k < ns.length
    · obtain ⟨b, off, hA, hbb, hc⟩ := (HNS.out.below hb) k (.string ns[k]) (by simp [nmC, List.getElem?_eq_getElem hlt])
      have HTK := hide (show ns.take (k + 1) = ns.take k ++ [ns[k]] from take_succ hlt)
      have HIN := hide (show ns[k] ∈ ns from List.getElem_mem hlt)
      clear hb
      subst hA
      generalize ns[k] = nm at *
      have hx1 := HX.out.lt
      go_wp2_with fail
      refine (findName_any A os c nm wk ((HR.out.below HB.out).more HB.out.size) HLN.out).mono ?_
      rintro e w2' ⟨rfl, b2⟩
      have HW2 := hide (HW.out.call b2)
      have HX2 := hide (HX.out.call b2)
      have HB2 := hide (HB.out.trans (b2.mono HB.out.size))
      have HB12 := hide (HB1.out.trans (b2.mono (Nat.le_of_lt hx1)))
      clear HW hc HX HB HB1 b2 hx1
      cases hf : findN (os.map OV.d) nm with
      | none =>
        have HV := hide (show plcs (os.map OV.d) base ns = none from if_neg (fun h => by
          have := h.2 nm HIN.out
          rw [hf] at this
          cases this))
        have HB4 := hide (HB2.out.alloc HB2.out.size (.cells #[.int .i64 0, .int .i64 0] 117))
        simp only [givV, gin, gat, Option.isSome_none]
        clear hf
        go_wp2_with fail
        go_ret2
        exact ⟨none, 0, [], by rw [HV.out]; rfl, .inr ⟨HV.out, rfl⟩, Row.empty _ _ _ _ _, HB4.out⟩
      | some g =>
        obtain ⟨hgk, hgj, hpo, htg⟩ := found_at HPL.out hf
        have HNX := hide (show (ns.take (k + 1)).map (fun n => tgO (os.map OV.d) (rs.map RV.zs) (findN (os.map OV.d) n)) = zs ++ [tgY (rs.map RV.zs) g.1 (os[g.1]).ys[g.2]] from by
          rw [HTK.out, List.map_append, HZS.out, ← htg, ← hf]
          rfl)
        have HAX := hide (show ∀ n ∈ ns.take (k + 1), (findN (os.map OV.d) n).isSome = true from fun n hn => by
          rw [HTK.out] at hn
          rcases List.mem_append.1 hn with hn | hn
          · exact HALL.out n hn
          · rw [List.mem_singleton.1 hn, hf]
            rfl)
        obtain ⟨g1, g2⟩ := g
        simp only [givV, gin, gat, Option.isSome_some]
        simp only at hgk hgj hpo HNX
        have B3 : Below w2'.heap.size w2' (w2'.alloc (.cells #[.int .i64 g1, .int .i64 g2] 117)) := (by repeat (first | exact Below.refl _ _ | with_reducible assumption | (refine Below.drew ?_) | (refine Below.drewN ?_ _) | (refine Below.alloc ?_ (by simp; try omega) _) | (refine Below.setCell ?_ (by simp; try omega) _)))
        have HG := hide (Box.new w2' 117 #[.int .i64 g1, .int .i64 g2])
        have hx2 := HX2.out.lt
        have HW3 := hide (HW2.out.call B3)
        have HX3 := hide (HX2.out.call B3)
        have HB3 := hide (HB2.out.trans (B3.mono HB2.out.size))
        have HB13 := hide (HB12.out.trans (B3.mono (Nat.le_of_lt hx2)))
        have HPC := hide (placeOf_any PA rs pc E es.length ec A os c g1 g2 (w2'.alloc (.cells #[.int .i64 g1, .int .i64 g2] 117)) ((HP.out.below HB13.out).more (Nat.le_of_lt HX3.out.lt)) ((HR.out.below HB3.out).more HB3.out.size) hgk hgj ⟨HLN.out.1, HLN.out.2 _ (List.getElem_mem hgk)⟩ hpo)
        generalize tgY (rs.map RV.zs) g1 (os[g1]).ys[g2] = v at *
        clear hf htg hgj hpo HW2 hgk HX2 HB2 HB12 B3
        have x0 := HX3.out.cell 0
        have x1 := HX3.out.cell 1
        simp only [List.getElem?_toArray, List.getElem?_cons_zero, List.getElem?_cons_succ] at x0 x1
        have y0 := HG.out.cell 0
        have y1 := HG.out.cell 1
        simp only [List.getElem?_toArray, List.getElem?_cons_zero, List.getElem?_cons_succ] at y0 y1
        have hxl := HX3.out.lt
        have hyl := HG.out.lt
        go_wp2_with fail
        clear x0 x1 y0 y1 hxl hyl HG hx2
        generalize w2'.alloc (.cells #[.int .i64 g1, .int .i64 g2] 117) = w3 at *
        refine HPC.out.mono ?_
        rintro e w4 ⟨rfl, b4⟩
        have hx3 := HX3.out.lt
        have HW4 := hide (HW3.out.call b4)
        have HX4 := hide (HX3.out.call b4)
        have HB4 := hide (HB3.out.trans (b4.mono HB3.out.size))
        have HB14 := hide (HB13.out.trans (b4.mono (Nat.le_of_lt hx3)))
        clear HPC HW3 HX3 HB3 HB13 b4 hx3
        have B5 : Below w4.heap.size w4 (w4.alloc (.cells #[.int .i64 v] 3)) := (by repeat (first | exact Below.refl _ _ | with_reducible assumption | (refine Below.drew ?_) | (refine Below.drewN ?_ _) | (refine Below.alloc ?_ (by simp; try omega) _) | (refine Below.setCell ?_ (by simp; try omega) _)))
        have hx4 := HX4.out.lt
        have HW5 := hide (HW4.out.call B5)
        have HX5 := hide (HX4.out.call B5)
        have HB5 := hide (HB4.out.trans (B5.mono HB4.out.size))
        have HB15 := hide (HB14.out.trans (B5.mono (Nat.le_of_lt hx4)))
        clear HW4 HX4 HB4 HB14 B5 hx4
        go_wp2_with (at_builtin; refine wpList_app _ rfl (.tmp 38) (.tmp 43) 59 rfl 3 i0 (.int .i64 0) 1 8 Try.underlying59 HI.out.1 HI.out.2.1 HI.out.2.2.1 HI.out.2.2.2 rfl (by decide) X0 A1 zs.length c1 (ints .i64 zs) rfl HW5.out (Nat.le_of_lt HX5.out.lt) (some ⟨w4.heap.size, 0, none⟩) 1 1 [.int .i64 v] rfl (rd_lit w4 #[.int .i64 v] 3 _ rfl) rfl (fun h => by cases h) oneI1 ?n1 ?n2 ?_)
        case n1 => unfold maxLen; omega
        case n2 => omega
        intro A6 n6 c6 w6 hn6 o6 g6 k6
        have HX6 := hide (HX5.out.grown g6 (HW5.out.box HX5.out (by decide)))
        have HB6 := hide (HB5.out.grown g6 HB5.out.size (fun j hj => Nat.le_trans (by have h1 := HWW.out; exact h1) (HW5.out.lt j hj).1))
        have HB16 := hide (HB15.out.grown g6 (Nat.le_of_lt HX5.out.lt) (fun j hj => (HW5.out.lt j hj).1))
        have hn' : n6 = (zs ++ [v]).length := by rw [hn6, List.length_append]; rfl
        have HW6 := hide (show Row w6 X0 3 1 A6 (zs ++ [v]).length c6 (ints .i64 (zs ++ [v])) from by
          rw [← hn']
          simpa [ints] using o6)
        subst hn'
        clear hn6 o6 g6 k6 HW5 HX5 HB5 HB15
        go_wp2_with fail
        refine ⟨⟨k + 1, A6, c6, zs ++ [v], by omega, by first | rfl | rw [List.length_append], by go_num, HAX.out, HNX.out.symm, by simp [HZL.out], HW6.out, HX6.out, HB16.out, HB6.out⟩, by simp [intOf]; omega⟩
    · have hke : k = ns.length := by omega
      have HV := hide (show plcs (os.map OV.d) base ns = some zs from by
        have h1 := HALL.out
        have h2 := HZS.out
        rw [hke, List.take_length] at h1 h2
        rw [plcs, if_pos ⟨HOK.out, h1⟩, h2, HRZ.out])
      clear hb
      go_wp2_with fail
      go_ret2
      exact ⟨A1, c1, zs, by rw [HV.out]; rfl, .inl HV.out, HW.out.down HWW.out, HB.out⟩
end Go.Proofs.Ytmglgjchemecjaa.CNPlI
/- Landmarks stand at their names' places, in order; plain. -/
namespace Go.Proofs.Ytmglgjchemecjaa.PLmk3
set_option maxRecDepth 200000
open Go.ChangeShapes Go.WideShapes Go.ChangeAt Go.RowKit Kit CCode CName PObj PValid PLink CLandmarks CSorted PIns CNGS CNPlS PSort PLmk PStab PLmk2
theorem lmk_mem {l : List OD} {base : Int} {x : LD} (h : x ∈ lmkS l base) : plcs l base [x.1] = some [x.2] := by
  cases hb : (objsOk l && baseOk base)
  · rw [lmk_bad hb] at h
    cases h
  · have ho : objsOk l = true := by
      rw [Bool.and_eq_true] at hb
      exact hb.1
    rw [lmk_ok hb] at h
    obtain ⟨p, _⟩ := fold_ok ((namesL l).map (atP l base)) [] List.Pairwise.nil (lmk_crs l base) (fun y hy => by cases hy)
    have h1 := p.subset h
    rw [List.nil_append] at h1
    obtain ⟨n, hn, rfl⟩ := List.mem_map.1 h1
    unfold plcs
    rw [if_pos ⟨hb, fun m hm => by
      rw [List.mem_singleton.1 hm]
      exact names_found ho n hn⟩]
    rfl
theorem lmk_srt (l : List OD) (base : Int) : Srt (lmkS l base) := by
  cases hb : (objsOk l && baseOk base)
  · rw [lmk_bad hb]
    exact List.Pairwise.nil
  · rw [lmk_ok hb]
    exact (fold_ok ((namesL l).map (atP l base)) [] List.Pairwise.nil (lmk_crs l base) (fun y hy => by cases hy)).2
theorem lmk_next {l : List OD} {base : Int} {k : Nat} (h : k + 1 < (lmkS l base).length) (h0 : k < (lmkS l base).length) : ¬ ((lmkS l base)[k + 1]'h).2 < ((lmkS l base)[k]'h0).2 := by
  have h1 := List.pairwise_iff_getElem.1 (lmk_srt l base) k (k + 1) h0 h (by omega)
  rcases h1 with h1 | ⟨h1, _⟩ <;> omega
end Go.Proofs.Ytmglgjchemecjaa.PLmk3
/- Contracts of the reference's reader of drawn bytes: it turns its own block alone, and its numbers are in range. -/
namespace Go.Proofs.Ytmglgjchemecjaa.DPick
set_option maxRecDepth 200000
open Go.ChangeShapes Go.WideShapes Go.ChangeAt Go.RowKit Kit
/-- The reader: its block R holds bytes that lie below block B, and a place of at most N. -/
def Tape (w : World) (B R : Nat) (N : Int) : Prop :=
  B ≤ R ∧ ∃ (A : Option Addr) (zs : List Int) (c : Nat) (p : Int), Box w R 129 #[.slice A zs.length c, .int .i64 p] ∧ Rd w B A (ints .u8 zs) ∧ InR 0 255 zs ∧ zs.length ≤ 2000 ∧ 0 ≤ p ∧ p ≤ N
section
variable {w w' : World} {B R : Nat} {N : Int}
theorem Tape.lt (h : Tape w B R N) : R < w.heap.size := by
  obtain ⟨_, A, zs, c, p, hb, _⟩ := h
  exact hb.lt
theorem Tape.more (h : Tape w B R N) {N' : Int} (hN : N ≤ N') : Tape w B R N' := by
  obtain ⟨h0, A, zs, c, p, hb, hr, hz, hl, p0, p1⟩ := h
  exact ⟨h0, A, zs, c, p, hb, hr, hz, hl, p0, by omega⟩
theorem Tape.below (h : Tape w B R N) (hb : Below (R + 1) w w') : Tape w' B R N := by
  obtain ⟨h0, A, zs, c, p, hx, hr, hz, hl, p0, p1⟩ := h
  exact ⟨h0, A, zs, c, p, hx.below hb (by omega), hr.below (hb.mono (by omega)), hz, hl, p0, p1⟩
theorem Tape.call (h : Tape w B R N) (hb : Below w.heap.size w w') : Tape w' B R N := h.below (hb.mono h.lt)
end
theorem xor_i64 (a b : Nat) (ha : a < 9223372036854775808) (hb : b < 9223372036854775808) : bits .xor .i64 (a : Int) (b : Int) = ((a ^^^ b : Nat) : Int) ∧ a ^^^ b < 9223372036854775808 := by
  have hx : a ^^^ b < 2 ^ 63 := Nat.xor_lt_two_pow (by omega) (by omega)
  refine ⟨?_, by omega⟩
  show IntKind.i64.wrap ((BitVec.ofInt 64 (a : Int) ^^^ BitVec.ofInt 64 (b : Int)).toNat : Int) = _
  rw [BitVec.toNat_xor, ofInt_i64 a ha, ofInt_i64 b hb, IntKind.wrap_i64]
  omega
def Picked (w : World) (B R : Nat) (N : Int) (n : Int) (e : Ending) (w' : World) : Prop := ∃ x : Int, e = .returned (.int .i64 x) ∧ 0 ≤ x ∧ x < n ∧ Tape w' B R (N + 1) ∧ w.grownBy w' (some R)
theorem pick_any {w : World} {B R : Nat} {N : Int} (hT : Tape w B R N) (hN : N ≤ 1099511627776) (n : Int) (hn : 1 ≤ n) (hn' : n ≤ 1099511627776) :
    Calls Try.prog 86 #[.pointer (some ⟨R, 0, none⟩), .int .i64 n] w (Picked w B R N n) := by
  obtain ⟨h0, A, zs, c, p, hx, hr, hz, hl, p0, p1⟩ := hT
  have q0 := hx.cell 0
  have q1 := hx.cell 1
  have f0 := hx.frozen 0
  have f1 := hx.frozen 1
  simp only [List.getElem?_toArray, List.getElem?_cons_zero, List.getElem?_cons_succ] at q0 q1
  have HX := hide hx
  clear hx
  have HR := hide hr
  have HZ := hide hz
  clear hr hz
  have hfin : ∀ (x : Int) (w' : World), 0 ≤ x → x < n → w'.heap = (w.setCell ⟨R, 1, none⟩ (.int .i64 (p + 1))).heap → w'.os = w.os → w'.tape = w.tape → w'.output = w.output → Picked w B R N n (.returned (.int .i64 x)) w' := by
    intro x w' x0 x1 hh ho ht hu
    have hk : ∀ k, k ≠ R → w'.heap[k]? = w.heap[k]? := fun k hk => by rw [hh]; exact Below.heap_setCell w ⟨R, 1, none⟩ _ k hk
    refine ⟨x, rfl, x0, x1, ⟨h0, A, zs, c, p + 1, ?_, HR.out.keep (fun a ha => World.cell?_of_block (hk _ (by omega))), HZ.out, hl, by omega, by omega⟩, ho, ht, hu, by rw [hh]; simp [World.setCell], fun k _ hne => hk k (fun e => hne (by rw [e]))⟩
    have := HX.out.set 1 (.int .i64 (p + 1))
    unfold Box at this ⊢
    rw [hh]
    exact this
  have HF := hide hfin
  clear hfin
  have hd : decide (n < 1) = false := by simp; omega
  by_cases hz0 : zs.length = 0
  · go_enter Try.func86, Try.ntmps86
    go_wp2_with fail
    all_goals (go_ret; exact HF.out 0 _ (by omega) (by omega) rfl rfl rfl rfl)
  · by_cases hk : p < zs.length
    · obtain ⟨k, rfl⟩ := Int.eq_ofNat_of_zero_le p0
      obtain ⟨b, off, rfl, hbb, hc⟩ := HR.out.int (i := k) (by omega)
      obtain ⟨x0, x1⟩ := HZ.out.at_ (i := k) (by omega)
      generalize zs[k] = x at *
      have hbR : b ≠ R := by omega
      go_enter Try.func86, Try.ntmps86
      go_wp2_with fail
      all_goals (go_ret; exact HF.out (x % n) _ (Int.emod_nonneg _ (by omega)) (Int.emod_lt_of_pos _ (by omega)) rfl rfl rfl rfl)
    · obtain ⟨i1, e1⟩ := Int.eq_ofNat_of_zero_le (Int.emod_nonneg p (show (zs.length : Int) ≠ 0 by omega))
      obtain ⟨i2, e2⟩ := Int.eq_ofNat_of_zero_le (Int.emod_nonneg (p * 7 + 3) (show (zs.length : Int) ≠ 0 by omega))
      have l1 := Int.emod_lt_of_pos p (show 0 < (zs.length : Int) by omega)
      have l2 := Int.emod_lt_of_pos (p * 7 + 3) (show 0 < (zs.length : Int) by omega)
      rw [e1] at l1
      rw [e2] at l2
      have d0 : 0 ≤ p / (zs.length : Int) := Int.ediv_nonneg p0 (by omega)
      have d1 : p / (zs.length : Int) ≤ p := Int.ediv_le_self _ p0
      generalize hdv : p / (zs.length : Int) = dv at *
      obtain ⟨b, off, rfl, hbb, hc1⟩ := HR.out.int (i := i1) (by omega)
      obtain ⟨b', off', e', _, hc2⟩ := HR.out.int (i := i2) (by omega)
      simp only [Option.some.injEq, Addr.mk.injEq, and_true] at e'
      obtain ⟨rfl, rfl⟩ := e'
      obtain ⟨x0, x1⟩ := HZ.out.at_ (i := i1) (by omega)
      obtain ⟨y0, y1⟩ := HZ.out.at_ (i := i2) (by omega)
      generalize zs[i1] = x at *
      generalize zs[i2] = y at *
      have hbR : b ≠ R := by omega
      go_enter Try.func86, Try.ntmps86
      go_wp2_with fail
      go_quiet (fail)
      obtain ⟨X, hX⟩ := Int.eq_ofNat_of_zero_le (show 0 ≤ x * 131 + y * 1117 + p * 29 + dv * 53 by omega)
      have hXb : (X : Int) ≤ 1125899906842624 := by omega
      rw [hX]
      obtain ⟨M, hM⟩ : ∃ M : Nat, X ^^^ (X / 64) = M := ⟨_, rfl⟩
      obtain ⟨hx1, hx2⟩ := xor_i64 X (X / 64) (by omega) (by omega)
      rw [hM] at hx1 hx2
      have hx1 : bits .xor .i64 (X : Int) ((X : Int) / 64) = (M : Int) := hx1
      have hMb : (M : Int) ≤ 9223372036854775807 := by omega
      clear hX hM hx2 e1 e2 l1 l2 hdv d0 d1 hc1 hc2 hk
      go_wp2_with fail
      all_goals (go_ret; exact HF.out _ _ (Int.emod_nonneg _ (by omega)) (Int.emod_lt_of_pos _ (by omega)) rfl rfl rfl rfl)
theorem odd_any {w : World} {B R : Nat} {N : Int} (hT : Tape w B R N) (hN : N ≤ 1099511627776) (n : Int) (hn : 0 ≤ n) (hn' : n ≤ 1099511627776) :
    Calls Try.prog 105 #[.pointer (some ⟨R, 0, none⟩), .int .i64 n] w fun e w' => ∃ b : Bool, e = .returned (.bool b) ∧ Tape w' B R (N + 1) ∧ w.grownBy w' (some R) := by
  by_cases h0 : n = 0
  · subst h0
    go_enter Try.func105, Try.ntmps105
    go_wp2_with fail
    go_ret
    exact ⟨false, rfl, hT.more (by omega), grown_refl _ _⟩
  · have h1 : 0 < n := by omega
    go_enter Try.func105, Try.ntmps105
    go_wp2_with fail
    refine (pick_any hT hN n (by omega) hn').mono ?_
    rintro e w1 ⟨x, rfl, x0, x1, T1, g1⟩
    have HT := hide (And.intro T1 g1)
    clear T1 g1 hT
    go_wp2_with fail
    go_ret
    exact ⟨_, rfl, HT.out.1, HT.out.2⟩
/-- What a draw's opening hands back: a new reader. -/
theorem open_any (A : Option Addr) (zs : List Int) (c : Nat) (w : World) (hr : Rd w w.heap.size A (ints .u8 zs)) (hz : InR 0 255 zs) (hc : zs.length ≤ c) (hcm : c ≤ maxLen) :
    Calls Try.prog 41 #[.slice A zs.length c] w fun e w' => ∃ R, e = .returned (.pointer (some ⟨R, 0, none⟩)) ∧ Tape w' w.heap.size R 0 ∧ Below w.heap.size w w' := by
  unfold maxLen at hcm
  by_cases h : 2000 < zs.length
  · obtain ⟨b, off, rfl, _, _⟩ := hr.int (i := 0) (by omega)
    obtain ⟨hr', hl'⟩ := hr.slice 0 2000 (by omega)
    simp only [Nat.add_zero, List.drop_zero] at hr' hl'
    have HH := hide (And.intro hr' hl')
    have HZ := hide (show InR 0 255 (zs.take 2000) from fun x hx => hz x (List.mem_of_mem_take hx))
    clear hr hr' hl' hz
    go_enter Try.func41, Try.ntmps41
    go_wp2_with fail
    go_ret
    have hlen : (zs.take 2000).length = 2000 := by rw [List.length_take]; omega
    have hbx := Box.new w 129 #[.slice (some ⟨b, off, none⟩) 2000 c, .int .i64 0]
    have hbl : Below w.heap.size w (w.alloc (.cells #[.slice (some ⟨b, off, none⟩) 2000 c, .int .i64 0] 129)) := (by repeat (first | exact Below.refl _ _ | with_reducible assumption | (refine Below.drew ?_) | (refine Below.drewN ?_ _) | (refine Below.alloc ?_ (by simp; try omega) _) | (refine Below.setCell ?_ (by simp; try omega) _)))
    exact ⟨w.heap.size, rfl, ⟨Nat.le_refl _, _, zs.take 2000, c, 0, by rw [hlen]; exact hbx, HH.out.1.below hbl, HZ.out, by omega, by omega, by omega⟩, hbl⟩
  · have HR := hide hr
    have HZ := hide hz
    clear hr hz
    go_enter Try.func41, Try.ntmps41
    go_wp2_with fail
    go_ret
    have hbl : Below w.heap.size w (w.alloc (.cells #[.slice A zs.length c, .int .i64 0] 129)) := (by repeat (first | exact Below.refl _ _ | with_reducible assumption | (refine Below.drew ?_) | (refine Below.drewN ?_ _) | (refine Below.alloc ?_ (by simp; try omega) _) | (refine Below.setCell ?_ (by simp; try omega) _)))
    exact ⟨w.heap.size, rfl, ⟨Nat.le_refl _, _, zs, c, 0, Box.new _ _ _, HR.out.below hbl, HZ.out, by omega, by omega, by omega⟩, hbl⟩
end Go.Proofs.Ytmglgjchemecjaa.DPick
/- The reader and the world it was opened in; draws of numbers. -/
namespace Go.Proofs.Ytmglgjchemecjaa.DVar
set_option maxRecDepth 200000
open Go.ChangeShapes Go.WideShapes Go.ChangeAt Go.RowKit Kit DPick
/-- The reader stands at w, and from w0 on nothing but its block has turned. -/
def Tp (w0 w : World) (B R : Nat) (N : Int) : Prop := DPick.Tape w B R N ∧ w0.grownBy w (some R)
section
variable {w0 w w' : World} {B R : Nat} {N : Int}
theorem Tp.start (h : DPick.Tape w B R N) : Tp w w B R N := ⟨h, grown_refl _ _⟩
theorem Tp.call (h : Tp w0 w B R N) (hb : Below w.heap.size w w') : Tp w0 w' B R N := ⟨h.1.call hb, grown_below h.2 hb⟩
theorem Tp.alloc (h : Tp w0 w B R N) (o : Obj) : Tp w0 (w.alloc o) B R N := h.call ((Below.refl _ _).alloc (Nat.le_refl _) o)
theorem Tp.drewN (h : Tp w0 w B R N) (n : Nat) : Tp w0 (w.drewN n) B R N := h.call (Kit.Below.drewN (Below.refl _ _) n)
theorem Tp.drew (h : Tp w0 w B R N) : Tp w0 w.drew B R N := h.call ((Below.refl _ _).drew)
theorem Tp.drawn {d : Nat} (h : Tp w0 w B R N) : Tp w0 { heap := w.heap, tape := w.tape, drawn := d, os := w.os, output := w.output } B R N := h.call ⟨rfl, rfl, rfl, Nat.le_refl _, fun _ _ => rfl⟩
theorem Tp.more (h : Tp w0 w B R N) {N' : Int} (hN : N ≤ N') : Tp w0 w B R N' := ⟨h.1.more hN, h.2⟩
theorem Tp.below {B' : Nat} (h : Tp w0 w B R N) (hB : B' ≤ w0.heap.size) (hR : B' ≤ R) : Below B' w0 w := below_of_grown (Below.refl _ _) h.2 hB hR
theorem pick_tp (h : Tp w0 w B R N) (hN : N ≤ 1099511627776) (n : Int) (hn : 1 ≤ n) (hn' : n ≤ 1099511627776) :
    Calls Try.prog 86 #[.pointer (some ⟨R, 0, none⟩), .int .i64 n] w fun e w' => ∃ x : Int, e = .returned (.int .i64 x) ∧ 0 ≤ x ∧ x < n ∧ Tp w0 w' B R (N + 1) ∧ w.grownBy w' (some R) := by
  refine (pick_any h.1 hN n hn hn').mono ?_
  rintro e w' ⟨x, he, x0, x1, T, g⟩
  exact ⟨x, he, x0, x1, ⟨T, grown_trans h.2 g⟩, g⟩
theorem odd_tp (h : Tp w0 w B R N) (hN : N ≤ 1099511627776) (n : Int) (hn : 0 ≤ n) (hn' : n ≤ 1099511627776) :
    Calls Try.prog 105 #[.pointer (some ⟨R, 0, none⟩), .int .i64 n] w fun e w' => ∃ b : Bool, e = .returned (.bool b) ∧ Tp w0 w' B R (N + 1) ∧ w.grownBy w' (some R) := by
  refine (odd_any h.1 hN n hn hn').mono ?_
  rintro e w' ⟨x, he, T, g⟩
  exact ⟨x, he, ⟨T, grown_trans h.2 g⟩, g⟩
end
theorem Tp.set {w0 w : World} {B R : Nat} {N : Int} (h : Tp w0 w B R N) {a : Addr} (ha : w0.heap.size ≤ a.block) (hR : R < a.block) (u : Value) : Tp w0 (w.setCell a u) B R N := by
  refine ⟨?_, ⟨h.2.os, h.2.tape, h.2.output, by simpa [World.setCell] using h.2.size, fun k hk hne => (Below.heap_setCell w a u k (by omega)).trans (h.2.block k hk hne)⟩⟩
  obtain ⟨h0, A, zs, c, p, hb, hr, hz, hl, p0, p1⟩ := h.1
  exact ⟨h0, A, zs, c, p, hb.far (by omega) u, hr.keep (fun x hx => World.cell?_of_block (Below.heap_setCell w a u _ (by omega))), hz, hl, p0, p1⟩
theorem Tp.own {w0 w w' : World} {B R : Nat} {N : Int} (h : Tp w0 w B R N) {v : Option Nat} (g : w.grownBy w' v) (hv : ∀ k, v = some k → w0.heap.size ≤ k ∧ R < k) : Tp w0 w' B R N := by
  refine ⟨?_, grown_own h.2 g (fun k hk => (hv k hk).1)⟩
  obtain ⟨h0, A, zs, c, p, hb, hr, hz, hl, p0, p1⟩ := h.1
  have hk : ∀ k, k < R + 1 → w'.heap[k]? = w.heap[k]? := fun k hk => g.block k (Nat.lt_of_lt_of_le hk hb.lt) (fun e => by have := (hv k e.symm).2; omega)
  exact ⟨h0, A, zs, c, p, (hk R (by omega)).trans hb, hr.keep (fun x hx => World.cell?_of_block (hk _ (by omega))), hz, hl, p0, p1⟩
theorem own_pick {w w' : World} {base : Nat} {e : TypeId} {size n : Nat} {v : Value} {xs : List Value} {R : Nat} (h : w.ownsRow base e size v n xs) (g : w.grownBy w' (some R)) (hR : R < base) : w'.ownsRow base e size v n xs :=
  own_keep h fun k hk => g.block k (h.lt k hk).2 (fun e => by injection e with e; have := (h.lt k hk).1; omega)
theorem Tp.lt {w0 w : World} {B R : Nat} {N : Int} (h : Tp w0 w B R N) : R < w.heap.size := h.1.lt
/-- A cell of a literal that was laid just before a number was drawn. -/
theorem lit_at {w1 w2 : World} {cs : Array Value} {t : TypeId} {R : Nat} {k : IntKind} (g : (w1.alloc (.cells cs t)).grownBy w2 (some R)) (hR : R < w1.heap.size) {i : Int} (h0 : 0 ≤ i) (h1 : i < cs.size) (hb : ∀ v ∈ cs.toList, ∃ z, v = Value.int k z) :
    ∃ z, Value.int k z ∈ cs.toList ∧ w2.cell? ⟨w1.heap.size, i.toNat, none⟩ = some (.int k z) := by
  have hx : Box w2 w1.heap.size t cs := (Box.new w1 t cs).grown g (fun k hk => by injection hk with hk; omega)
  have hi' : i.toNat < cs.size := by omega
  obtain ⟨z, hz⟩ := hb (cs[i.toNat]'hi') (by simp)
  refine ⟨z, by rw [← hz]; simp, ?_⟩
  rw [hx.cell, Array.getElem?_eq_getElem hi', hz]
theorem pick_lit {w0 w1 : World} {B R : Nat} {N : Int} {cs : Array Value} {t : TypeId} {k : IntKind} (h : Tp w0 w1 B R N) (hN : N ≤ 1099511627776) (n : Int) (hn : 1 ≤ n) (hn' : n ≤ 1099511627776) (hb : ∀ v ∈ cs.toList, ∃ z, v = Value.int k z) (hs : n ≤ cs.size) :
    Calls Try.prog 86 #[.pointer (some ⟨R, 0, none⟩), .int .i64 n] (w1.alloc (.cells cs t)) fun e w' => ∃ x : Int, e = .returned (.int .i64 x) ∧ 0 ≤ x ∧ x < n ∧ Tp w0 w' B R (N + 1) ∧ (w1.alloc (.cells cs t)).grownBy w' (some R) ∧
      ∃ z, Value.int k z ∈ cs.toList ∧ w'.cell? ⟨w1.heap.size, x.toNat, none⟩ = some (.int k z) := by
  refine (pick_tp (h.alloc (.cells cs t)) hN n hn hn').mono ?_
  rintro e w' ⟨x, he, x0, x1, T, g⟩
  exact ⟨x, he, x0, x1, T, g, lit_at g h.lt x0 (by omega) hb⟩
/-- The same where a table of places was laid behind the literal: the number drawn picks a place, the place a cell. -/
theorem pick_lit2 {w0 w1 : World} {B R : Nat} {N : Int} {cs cs2 : Array Value} {t t2 : TypeId} {k : IntKind} (h : Tp w0 w1 B R N) (hN : N ≤ 1099511627776) (n : Int) (hn : 1 ≤ n) (hn' : n ≤ 1099511627776) (hb : ∀ v ∈ cs.toList, ∃ z, v = Value.int k z) (hb2 : ∀ v ∈ cs2.toList, ∃ z, v = Value.int .i64 z ∧ 0 ≤ z ∧ z < cs.size) (hs : n ≤ cs2.size) :
    Calls Try.prog 86 #[.pointer (some ⟨R, 0, none⟩), .int .i64 n] ((w1.alloc (.cells cs t)).alloc (.cells cs2 t2)) fun e w' => ∃ x : Int, e = .returned (.int .i64 x) ∧ 0 ≤ x ∧ x < n ∧ Tp w0 w' B R (N + 1) ∧ ((w1.alloc (.cells cs t)).alloc (.cells cs2 t2)).grownBy w' (some R) ∧
      ∃ z y, Value.int .i64 z ∈ cs2.toList ∧ w'.cell? ⟨w1.heap.size + 1, x.toNat, none⟩ = some (.int .i64 z) ∧ 0 ≤ z ∧ z < cs.size ∧ Value.int k y ∈ cs.toList ∧ w'.cell? ⟨w1.heap.size, z.toNat, none⟩ = some (.int k y) := by
  have hb3 : ∀ v ∈ cs2.toList, ∃ z, v = Value.int .i64 z := fun v hv => by
    obtain ⟨z, hz, _⟩ := hb2 v hv
    exact ⟨z, hz⟩
  refine (pick_lit (h.alloc (.cells cs t)) hN n hn hn' hb3 hs).mono ?_
  rintro e w' ⟨x, he, x0, x1, T, g, z, hm, hz⟩
  obtain ⟨z', hz', z0, z1⟩ := hb2 _ hm
  obtain rfl : z = z' := by injection hz'
  have hsz : (w1.alloc (.cells cs t)).heap.size = w1.heap.size + 1 := by simp
  rw [hsz] at hz
  have hx : Box w' w1.heap.size t cs := ((Box.new w1 t cs).alloc _).grown g (fun k hk => by injection hk with hk; have := h.lt; omega)
  have hi' : z.toNat < cs.size := by omega
  obtain ⟨y, hy⟩ := hb (cs[z.toNat]'hi') (by simp)
  refine ⟨x, he, x0, x1, T, g, z, y, hm, hz, z0, z1, by rw [← hy]; simp, ?_⟩
  rw [hx.cell, Array.getElem?_eq_getElem hi', hy]
end Go.Proofs.Ytmglgjchemecjaa.DVar
/- The draw of a name. -/
namespace Go.Proofs.Ytmglgjchemecjaa.DName
set_option maxRecDepth 200000
open Go.ChangeShapes Go.WideShapes Go.ChangeAt Go.RowKit Kit DPick DVar
/-- A cell of a literal that was laid just before a number was drawn, told by what all its cells are. -/
theorem pick_litP {p : Value → Prop} {w0 w1 : World} {B R : Nat} {N : Int} {cs : Array Value} {t : TypeId} (h : Tp w0 w1 B R N) (hN : N ≤ 1099511627776) (n : Int) (hn : 1 ≤ n) (hn' : n ≤ 1099511627776) (hb : ∀ v ∈ cs.toList, p v) (hs : n ≤ cs.size) :
    Calls Try.prog 86 #[.pointer (some ⟨R, 0, none⟩), .int .i64 n] (w1.alloc (.cells cs t)) fun e w' => ∃ x : Int, e = .returned (.int .i64 x) ∧ 0 ≤ x ∧ x < n ∧ Tp w0 w' B R (N + 1) ∧ (w1.alloc (.cells cs t)).grownBy w' (some R) ∧
      ∃ v, p v ∧ w'.cell? ⟨w1.heap.size, x.toNat, none⟩ = some v := by
  refine (pick_tp (h.alloc (.cells cs t)) hN n hn hn').mono ?_
  rintro e w' ⟨x, he, x0, x1, T, g⟩
  have hx : Box w' w1.heap.size t cs := (Box.new w1 t cs).grown g (fun k hk => by injection hk with hk; have := h.lt; omega)
  have hi' : x.toNat < cs.size := by omega
  refine ⟨x, he, x0, x1, T, g, cs[x.toNat]'hi', hb _ (by simp), ?_⟩
  rw [hx.cell, Array.getElem?_eq_getElem hi']
theorem odd_zero {w : World} {R : Nat} : Calls Try.prog 105 #[.pointer (some ⟨R, 0, none⟩), .int .i64 0] w (Pure (.bool false) w) := by
  go_enter Try.func105, Try.ntmps105
  go_wp2_with fail
  go_ret
  exact ⟨rfl, rfl⟩
def IsName (v : Value) : Prop := ∃ s : ByteArray, v = .string s ∧ 0 < s.size ∧ s.size ≤ 9
def IsText (v : Value) : Prop := ∃ s : ByteArray, v = .string s ∧ s.size ≤ 9
def DrewText (w0 w : World) (B R : Nat) (N : Int) (lo : Nat) (e : Ending) (w' : World) : Prop := ∃ s : ByteArray, e = .returned (.string s) ∧ lo ≤ s.size ∧ s.size ≤ 9 ∧ Tp w0 w' B R N ∧ w.grownBy w' (some R)
theorem grown_lit {w w1 w2 : World} {o : Obj} {R : Nat} (g1 : w.grownBy w1 (some R)) (g2 : (w1.alloc o).grownBy w2 (some R)) : w.grownBy w2 (some R) := grown_trans (grown_alloc g1 o) g2
theorem name_any {w0 w : World} {B R : Nat} {N : Int} (T : Tp w0 w B R N) (hN : N ≤ 1000000) (n : Int) (hn : 0 ≤ n) (hn' : n ≤ 1000) :
    Calls Try.prog 162 #[.pointer (some ⟨R, 0, none⟩), .int .i64 n] w (DrewText w0 w B R (N + 2) 0) := by
  go_enter Try.func162, Try.ntmps162
  go_wp2_with fail
  refine (odd_tp (by first | with_reducible assumption | exact Tp.alloc (by with_reducible assumption) _ | exact Tp.alloc (Tp.alloc (by with_reducible assumption) _) _ | exact Tp.drewN (by with_reducible assumption) _ | exact Tp.drew (by with_reducible assumption) | exact Tp.drawn (by with_reducible assumption) | exact Tp.alloc (Tp.drewN (by with_reducible assumption) _) _ | exact Tp.alloc (Tp.drew (by with_reducible assumption)) _ | exact Tp.alloc (Tp.alloc (Tp.alloc (by with_reducible assumption) _) _) _) (by omega) _ (by omega) (by omega)).mono ?_
  rintro e w1 ⟨bo, rfl, T1, g1⟩
  clear T
  cases bo
  · go_wp2_with fail
    refine (pick_litP (p := IsText) T1 (by omega) _ (by omega) (by omega) (by repeat (first | exact List.forall_mem_nil _ | refine List.forall_mem_cons.2 ⟨⟨_, rfl, by decide⟩, ?_⟩)) (by simp)).mono ?_
    rintro e w2 ⟨x, rfl, x0, x1, T2, g2, v, ⟨s, rfl, s1⟩, hv⟩
    have HG := hide (grown_lit g1 g2)
    clear g1 g2 T1
    go_wp2_with fail
    go_ret
    exact ⟨s, rfl, Nat.zero_le _, s1, T2.more (by omega), HG.out⟩
  · go_wp2_with fail
    refine (pick_litP (p := IsText) T1 (by omega) _ (by omega) (by omega) (by repeat (first | exact List.forall_mem_nil _ | refine List.forall_mem_cons.2 ⟨⟨_, rfl, by decide⟩, ?_⟩)) (by simp)).mono ?_
    rintro e w2 ⟨x, rfl, x0, x1, T2, g2, v, ⟨s, rfl, s1⟩, hv⟩
    have HG := hide (grown_lit g1 g2)
    clear g1 g2 T1
    go_wp2_with fail
    go_ret
    exact ⟨s, rfl, Nat.zero_le _, s1, T2.more (by omega), HG.out⟩
theorem name_ok {w0 w : World} {B R : Nat} {N : Int} (T : Tp w0 w B R N) (hN : N ≤ 1000000) :
    Calls Try.prog 162 #[.pointer (some ⟨R, 0, none⟩), .int .i64 0] w (DrewText w0 w B R (N + 2) 1) := by
  go_enter Try.func162, Try.ntmps162
  go_wp2_with fail
  refine odd_zero.mono ?_
  rintro e w' ⟨rfl, rfl⟩
  go_wp2_with fail
  refine (pick_litP (p := IsName) T (by omega) _ (by omega) (by omega) (by repeat (first | exact List.forall_mem_nil _ | refine List.forall_mem_cons.2 ⟨⟨_, rfl, by decide, by decide⟩, ?_⟩)) (by simp)).mono ?_
  rintro e w2 ⟨x, rfl, x0, x1, T2, g2, v, ⟨s, rfl, s0, s1⟩, hv⟩
  have HG := hide (grown_lit (grown_refl w (some R)) g2)
  clear g2 T
  go_wp2_with fail
  go_ret
  exact ⟨s, rfl, s0, s1, T2.more (by omega), HG.out⟩
end Go.Proofs.Ytmglgjchemecjaa.DName
/- The draw of bytes. -/
namespace Go.Proofs.Ytmglgjchemecjaa.DBytes
set_option maxRecDepth 200000
open Go.ChangeShapes Go.WideShapes Go.ChangeAt Go.RowKit Kit DPick DVar
theorem info8 : (Try.prog.info? 5).map (fun i => (i.zero, i.size, i.bytes)) = some (some (.int .u8 0), 1, 1) := by kernel_rfl
def DrewBytes (w0 w : World) (B R : Nat) (N : Int) (most : Nat) (e : Ending) (w' : World) : Prop := ∃ (A : Option Addr) (zs : List Int) (c : Nat), e = .returned (.slice A zs.length c) ∧ zs.length ≤ most ∧ InR 0 255 zs ∧ w'.ownsRow w.heap.size 5 1 (.slice A zs.length c) zs.length (ints .u8 zs) ∧ Tp w0 w' B R N
theorem bytes_any {w0 w : World} {B R : Nat} {N : Int} (T : Tp w0 w B R N) (hN : N ≤ 1000000) (hN0 : 0 ≤ N) (most : Nat) (hm : most ≤ 1000) :
    Calls Try.prog 163 #[.pointer (some ⟨R, 0, none⟩), .int .i64 most] w (DrewBytes w0 w B R (N + 2 * most + 1) most) := by
  obtain ⟨i0, hi, hz0, hz1, hz2⟩ := info_parts info8
  have hR := T.lt
  have hw0 := T.2.size
  have HO := hide (own_empty (w := w) (E := 5))
  go_enter Try.func163, Try.ntmps163
  go_wp2_with fail
  refine (pick_tp (by first | with_reducible assumption | exact Tp.alloc (by with_reducible assumption) _ | exact Tp.alloc (Tp.alloc (by with_reducible assumption) _) _ | exact Tp.drewN (by with_reducible assumption) _ | exact Tp.drew (by with_reducible assumption) | exact Tp.drawn (by with_reducible assumption) | exact Tp.alloc (Tp.drewN (by with_reducible assumption) _) _ | exact Tp.alloc (Tp.drew (by with_reducible assumption)) _ | exact Tp.alloc (Tp.alloc (Tp.alloc (by with_reducible assumption) _) _) _) (by omega) _ (by omega) (by omega)).mono ?_
  rintro e w1 ⟨x, rfl, x0, x1, T1, g1⟩
  have HO1 := hide (own_pick HO.out g1 hR)
  have HT1 := hide T1
  obtain ⟨j, rfl⟩ := Int.eq_ofNat_of_zero_le x0
  have hsz1 : w.heap.size ≤ w1.heap.size := by have h1 := g1.size; simp at h1; omega
  clear T T1 g1 HO
  go_wp2_with fail
  go_loopw [5, 6] (fun o k wr => ∃ (i : Nat) (A' : Option Addr) (l c' : Nat) (zs : List Int), k = .int .i64 i ∧ o = .slice A' l c' ∧ l = zs.length ∧ l + i ≤ most ∧ InR 0 255 zs ∧ wr.ownsRow w.heap.size 5 1 (.slice A' l c') l (ints .u8 zs) ∧ Tp w0 wr B R (N + 2 * (most - i : Int) + 1) ∧ w.heap.size ≤ wr.heap.size) (fun _ k _ => (intOf k).toNat)
  case atStart => exact ⟨j, _, 0, _, [], rfl, rfl, rfl, by omega, fun x hx => by simp at hx, HO1.out, HT1.out.more (by omega), hsz1⟩
  case round =>
    obtain ⟨i, A', l, c', zs, rfl, rfl, hl, hli, hzs, ho, T, hszr⟩ := hrel
    have HL := hide hl
    have HZ := hide hzs
    have HO := hide ho
    clear hl hzs ho HO1 HT1
    by_cases h0 : 0 < i
    · go_wp2_with fail
      refine (pick_tp (by first | with_reducible assumption | exact Tp.alloc (by with_reducible assumption) _ | exact Tp.alloc (Tp.alloc (by with_reducible assumption) _) _ | exact Tp.drewN (by with_reducible assumption) _ | exact Tp.drew (by with_reducible assumption) | exact Tp.drawn (by with_reducible assumption) | exact Tp.alloc (Tp.drewN (by with_reducible assumption) _) _ | exact Tp.alloc (Tp.drew (by with_reducible assumption)) _ | exact Tp.alloc (Tp.alloc (Tp.alloc (by with_reducible assumption) _) _) _) (by omega) _ (by omega) (by omega)).mono ?_
      rintro e w2 ⟨y, rfl, y0, y1, T2, g2⟩
      have HO2 := hide (own_pick HO.out g2 hR)
      have g2s := g2.size
      clear T g2 HO
      go_wp2_with fail
      refine (pick_lit T2 (by omega) _ (by omega) (by omega) (by repeat (first | exact List.forall_mem_nil _ | refine List.forall_mem_cons.2 ⟨⟨_, rfl⟩, ?_⟩)) (by simp)).mono ?_
      rintro e w3 ⟨v, rfl, v0, v1, T3, g3, z, hm, hz⟩
      simp only [List.mem_cons, Value.int.injEq, true_and, List.not_mem_nil, or_false] at hm
      have hzb : 0 ≤ z ∧ z ≤ 255 := by omega
      have HO3 := hide (own_pick (HO2.out.alloc _) g3 hR)
      have HT3 := hide T3
      have hsz3 : w.heap.size ≤ w3.heap.size := by have h1 := g3.size; have h2 := hszr; have h3 := g2s; simp at h1; omega
      clear T2 g3 HO2 hm T3
      go_wp2_with (at_builtin; refine wpList_app1 w3 rfl (.tmp 16) (.tmp 25) 22 rfl w.heap.size 5 i0 (.int .u8 0) 1 1 Try.underlying22 hi hz0 hz1 hz2 rfl (by decide) _ rfl rfl ?o1 _ _ _ rfl HO3.out ?n1 ?n2 ?n3 ?_)
      case o1 => first | rfl | (simp; done) | (intro u hu; simp at hu; subst hu; rfl)
      case n1 => unfold maxLen; omega
      case n2 => omega
      case n3 => exact hsz3
      intro A4 n4 c4 w4 hn4 o4 g4
      subst hn4
      have T4 := HT3.out.own g4 (fun k hk => ⟨Nat.le_trans hw0 (HO3.out.lt k hk).1, Nat.lt_of_lt_of_le hR (HO3.out.lt k hk).1⟩)
      have HO4 := hide o4
      have HT4 := hide T4
      have hsz4 := Nat.le_trans hsz3 g4.size
      clear o4 g4 T4 HO3 HT3 hz
      go_wp2_with fail
      refine ⟨⟨i - 1, A4, l + 1, c4, zs ++ [z], by go_num, rfl, by rw [HL.out]; simp, by omega, ?_, by simpa using HO4.out, HT4.out.more (by omega), hsz4⟩, by simp [intOf]; omega⟩
      intro a ha
      rcases List.mem_append.1 ha with ha | ha
      · exact HZ.out a ha
      · simp at ha; omega
    · have e : i = 0 := by omega
      subst e
      have hl := HL.out
      subst hl
      go_wp2_with fail
      go_ret
      exact ⟨A', zs, c', rfl, by omega, HZ.out, HO.out, T.more (by omega)⟩
end Go.Proofs.Ytmglgjchemecjaa.DBytes
/- A region that draws its order, taken operation by operation: each load under a condition of its own, which all that may come before it keep. -/
namespace Go.Proofs.Ytmglgjchemecjaa.Rw
set_option maxRecDepth 200000
open Go Reg Rv
section
variable {P : Program} {ops : Array Oper} {Q : Exit → Act → World → Prop} {md : Region.Mode} {Ob : Nat → World → World → Prop}
/-- Whatever order is picked from here on; every operation that is carried out keeps what Ob asks of it. -/
def wpAnyW (P : Program) (md : Region.Mode) (ops : Array Oper) (Q : Exit → Act → World → Prop) (Ob : Nat → World → World → Prop) : Nat → Array Bool → Act → World → Prop
  | 0, listed, a, w => Region.ready md ops listed = [] ∧ Q .normal a w
  | fuel + 1, listed, a, w =>
    (Region.ready md ops listed = [] → Q .normal a w) ∧
    ∀ i ∈ Region.ready md ops listed, wpOp P ops Q i (fun a' w' => Ob i w w' ∧ wpAnyW P md ops Q Ob fuel (listed.setIfInBounds i true) a' w') a w
theorem wpAny_of_W : ∀ (fuel : Nat) (listed : Array Bool) (a : Act) (w : World), wpAnyW P md ops Q Ob fuel listed a w → wpAny P md ops Q fuel listed a w
  | 0, _, _, _, h => h
  | fuel + 1, _, _, _, h => ⟨h.1, fun i hi => wpOp_mono (fun a' w' h' => wpAny_of_W fuel _ a' w' h'.2) (h.2 i hi)⟩
theorem weaker {Ob' : Nat → World → World → Prop} (h : ∀ j w w', Ob' j w w' → Ob j w w') : ∀ (fuel : Nat) (listed : Array Bool) (a : Act) (w : World), wpAnyW P md ops Q Ob' fuel listed a w → wpAnyW P md ops Q Ob fuel listed a w
  | 0, _, _, _, H => H
  | fuel + 1, _, _, _, H => ⟨H.1, fun i hi => wpOp_mono (fun a' w' h' => ⟨h i _ w' h'.1, weaker h fuel _ a' w' h'.2⟩) (H.2 i hi)⟩
/-- What a load adds to what is asked. -/
def Plus (Ob : Nat → World → World → Prop) (C : List Nat) (R : World → Prop) (j : Nat) (w w' : World) : Prop := Ob j w w' ∧ (C.contains j = false → R w → R w')
theorem first {i : Nat} {oi : Oper} {v : Value} {C : List Nat} {R : World → Prop} (hi : ops[i]? = some oi) (hsel : ∀ (j : Nat) (o : Oper) cs b, ops[j]? = some o → o.op ≠ .select cs b)
    (hQ : ∀ c a w, Q (.panic c) (a.put oi.dst v) w → Q (.panic c) a w) (hre : ∀ j w, Ob j w w) :
    ∀ (fuel : Nat) (listed : Array Bool) (a : Act) (w : World),
      (∀ j ∈ C, j ≠ i ∧ listed.getD j true = false ∧ ∃ o, ops[j]? = some o ∧ ∃ e ∈ o.after, Region.binds md e = true ∧ (e.on = i ∨ e.on ∈ C)) →
      (∀ j oj, ops[j]? = some oj → j ≠ i → listed.getD j true = false → (∀ e ∈ oj.after, Region.binds md e = true → e.on ≠ i) → oi.apart ops oj = true) →
      i ∈ Region.ready md ops listed → YieldsIf P ops R oi v a → R w →
      wpAnyW P md ops Q (Plus Ob C R) fuel (listed.setIfInBounds i true) (a.put oi.dst v) w → wpAnyW P md ops Q Ob (fuel + 1) listed a w := by
  intro fuel
  induction fuel with
  | zero =>
    intro listed a w _ _ hr hy hS H
    refine ⟨fun h => (by rw [h] at hr; cases hr), fun j hj => ?_⟩
    by_cases hji : j = i
    · subst hji
      exact hy.wpOp hi hS ⟨hre _ _, weaker (fun _ _ _ h => h.1) _ _ _ _ H⟩
    · have := ready_mono hj hji
      rw [H.1] at this
      cases this
  | succ fuel ih =>
    intro listed a w hC hfree hr hy hS H
    refine ⟨fun h => (by rw [h] at hr; cases hr), fun j hj => ?_⟩
    by_cases hji : j = i
    · subst hji
      exact hy.wpOp hi hS ⟨hre _ _, weaker (fun _ _ _ h => h.1) _ _ _ _ H⟩
    · have h1 := H.2 j (ready_mono hj hji)
      obtain ⟨hjun, oj, hoj, hall⟩ := mem_ready.1 hj
      have hun : ∀ k, listed.getD k true = false → ∀ e ∈ oj.after, Region.binds md e = true → e.on ≠ k := fun k h0 e he hb heq => by
        have h1 := hall e he hb
        rw [heq] at h1
        rcases Nat.lt_or_ge k listed.size with h' | h'
        · simp [h'] at h0 h1
          rw [h0] at h1
          cases h1
        · simp [Array.getElem?_eq_none h'] at h1
      have hnot : ∀ e ∈ oj.after, Region.binds md e = true → e.on ≠ i := hun i (mem_ready.1 hr).1
      have hjC : j ∉ C := fun hjc => by
        obtain ⟨_, _, o, ho, e, he, hb, hor⟩ := hC j hjc
        rw [hoj] at ho
        injection ho with ho
        subst ho
        rcases hor with hor | hor
        · exact hnot e he hb hor
        · exact hun _ (hC _ hor).2.1 e he hb rfl
      have h2 := wpOp_putIf hoj (hfree j oj hoj hji hjun hnot) (fun cs b => hsel i oi cs b hi) (fun cs b => hsel j oj cs b hoj) hQ hy h1
      have hfree' : ∀ k ok, ops[k]? = some ok → k ≠ i → (listed.setIfInBounds j true).getD k true = false →
          (∀ e ∈ ok.after, Region.binds md e = true → e.on ≠ i) → oi.apart ops ok = true := fun k ok hk hki hun hno => by
        refine hfree k ok hk hki ?_ hno
        by_cases hjk : j = k
        · subst hjk
          exact hjun
        · rw [getD_set_ne true hjk] at hun
          exact hun
      have hC' : ∀ k ∈ C, k ≠ i ∧ (listed.setIfInBounds j true).getD k true = false ∧ ∃ o, ops[k]? = some o ∧ ∃ e ∈ o.after, Region.binds md e = true ∧ (e.on = i ∨ e.on ∈ C) := fun k hk => by
        obtain ⟨a1, a2, a3⟩ := hC k hk
        refine ⟨a1, ?_, a3⟩
        have hjk : j ≠ k := by
          rintro rfl
          exact hjC hk
        rw [getD_set_ne true hjk]
        exact a2
      have hjC2 : C.contains j = false := by
        cases h : C.contains j
        · rfl
        · exact absurd (List.contains_iff_mem.1 h) hjC
      refine wpOp_mono (fun a' w' h3 => ⟨h3.2.1.1, ih (listed.setIfInBounds j true) a' w' hC' hfree' (ready_mono hr (Ne.symm hji)) h3.1 (h3.2.1.2 hjC2 hS) ?_⟩) h2
      rw [Array.setIfInBounds_comm _ _ hji]
      exact h3.2.2
/-- A load (what reads the world): take it first, under R. -/
theorem take {i : Nat} {oi : Oper} {v : Value} {fuel : Nat} {listed : Array Bool} {a : Act} {w : World} (R : World → Prop) (hi : ops[i]? = some oi)
    (hs : Region.noSelect ops = true) (hf : Region.free md ops listed i = true) (hr : (Region.ready md ops listed).contains i = true) (hT : closedB md ops listed i (cl md ops listed i 4) (fun _ => false) = true)
    (hQ : ∀ c a w, Q (.panic c) (a.put oi.dst v) w → Q (.panic c) a w) (hre : ∀ j w, Ob j w w) (hy : YieldsIf P ops R oi v a) (hS : R w)
    (h : wpAnyW P md ops Q (Plus Ob (cl md ops listed i 4) R) fuel (listed.setIfInBounds i true) (a.put oi.dst v) w) : wpAnyW P md ops Q Ob (fuel + 1) listed a w :=
  first (R := R) hi (Region.noSelect_spec hs) hQ hre fuel listed a w (closed_spec hT).1 (Region.free_spec hi hf) (by simpa using hr) hy hS h
/-- What only computes: take it first. -/
theorem comp {i : Nat} {oi : Oper} {v : Value} {fuel : Nat} {listed : Array Bool} {a : Act} {w : World} (hi : ops[i]? = some oi)
    (hs : Region.noSelect ops = true) (hf : Region.free md ops listed i = true) (hr : (Region.ready md ops listed).contains i = true)
    (hQ : ∀ c a w, Q (.panic c) (a.put oi.dst v) w → Q (.panic c) a w) (hre : ∀ j w, Ob j w w) (hy : YieldsIf P ops (fun _ => True) oi v a)
    (h : wpAnyW P md ops Q Ob fuel (listed.setIfInBounds i true) (a.put oi.dst v) w) : wpAnyW P md ops Q Ob (fuel + 1) listed a w :=
  first (R := fun _ => True) (C := []) hi (Region.noSelect_spec hs) hQ hre fuel listed a w (fun _ h => by cases h) (Region.free_spec hi hf) (by simpa using hr) hy trivial (weaker (Ob' := Ob) (fun _ _ _ h => ⟨h, fun _ _ => trivial⟩) _ _ _ _ h)
/-- One alone may come up. -/
theorem one {i : Nat} {o : Oper} {fuel : Nat} {listed : Array Bool} {a : Act} {w : World} (ho : ops[i]? = some o) (hr : Region.ready md ops listed = [i])
    (h : ∀ K : Act → World → Prop, Shut (∀ a w', Ob i w w' → wpAnyW P md ops Q Ob fuel (listed.setIfInBounds i true) a w' → K a w') → if Region.wanted o (yielded ops a.tmps) = true then Oper.wp P o a w K Q else K (a.put o.dst undef) w) :
    wpAnyW P md ops Q Ob (fuel + 1) listed a w :=
  ⟨fun h0 => (by rw [hr] at h0; cases h0), fun j hj => by
    rw [hr] at hj
    simp only [List.mem_singleton] at hj
    subst hj
    exact wpOp_step ho (fun K' hK => h K' (fun a w hS hW => hK a w ⟨hS, hW⟩))⟩
theorem two {i j : Nat} {oi oj : Oper} {fuel : Nat} {listed : Array Bool} {a : Act} {w : World} (hoi : ops[i]? = some oi) (hoj : ops[j]? = some oj) (hr : Region.ready md ops listed = [i, j])
    (h : ∀ K : Act → World → Prop, Shut (∀ a w', Ob i w w' → wpAnyW P md ops Q Ob fuel (listed.setIfInBounds i true) a w' → K a w') → if Region.wanted oi (yielded ops a.tmps) = true then Oper.wp P oi a w K Q else K (a.put oi.dst undef) w)
    (h' : ∀ K : Act → World → Prop, Shut (∀ a w', Ob j w w' → wpAnyW P md ops Q Ob fuel (listed.setIfInBounds j true) a w' → K a w') → if Region.wanted oj (yielded ops a.tmps) = true then Oper.wp P oj a w K Q else K (a.put oj.dst undef) w) :
    wpAnyW P md ops Q Ob (fuel + 1) listed a w :=
  ⟨fun h0 => (by rw [hr] at h0; cases h0), fun k hk => by
    rw [hr] at hk
    simp only [List.mem_cons, List.not_mem_nil, or_false] at hk
    rcases hk with rfl | rfl
    · exact wpOp_step hoi (fun K' hK => h K' (fun a w hS hW => hK a w ⟨hS, hW⟩))
    · exact wpOp_step hoj (fun K' hK => h' K' (fun a w hS hW => hK a w ⟨hS, hW⟩))⟩
theorem three {i j l : Nat} {oi oj ol : Oper} {fuel : Nat} {listed : Array Bool} {a : Act} {w : World} (hoi : ops[i]? = some oi) (hoj : ops[j]? = some oj) (hol : ops[l]? = some ol) (hr : Region.ready md ops listed = [i, j, l])
    (h : ∀ K : Act → World → Prop, Shut (∀ a w', Ob i w w' → wpAnyW P md ops Q Ob fuel (listed.setIfInBounds i true) a w' → K a w') → if Region.wanted oi (yielded ops a.tmps) = true then Oper.wp P oi a w K Q else K (a.put oi.dst undef) w)
    (h' : ∀ K : Act → World → Prop, Shut (∀ a w', Ob j w w' → wpAnyW P md ops Q Ob fuel (listed.setIfInBounds j true) a w' → K a w') → if Region.wanted oj (yielded ops a.tmps) = true then Oper.wp P oj a w K Q else K (a.put oj.dst undef) w)
    (h'' : ∀ K : Act → World → Prop, Shut (∀ a w', Ob l w w' → wpAnyW P md ops Q Ob fuel (listed.setIfInBounds l true) a w' → K a w') → if Region.wanted ol (yielded ops a.tmps) = true then Oper.wp P ol a w K Q else K (a.put ol.dst undef) w) :
    wpAnyW P md ops Q Ob (fuel + 1) listed a w :=
  ⟨fun h0 => (by rw [hr] at h0; cases h0), fun k hk => by
    rw [hr] at hk
    simp only [List.mem_cons, List.not_mem_nil, or_false] at hk
    rcases hk with rfl | rfl | rfl
    · exact wpOp_step hoi (fun K' hK => h K' (fun a w hS hW => hK a w ⟨hS, hW⟩))
    · exact wpOp_step hoj (fun K' hK => h' K' (fun a w hS hW => hK a w ⟨hS, hW⟩))
    · exact wpOp_step hol (fun K' hK => h'' K' (fun a w hS hW => hK a w ⟨hS, hW⟩))⟩
theorem done {listed : Array Bool} {a : Act} {w : World} (hr : Region.ready md ops listed = []) (h : Q .normal a w) : ∀ fuel, wpAnyW P md ops Q Ob fuel listed a w
  | 0 => ⟨hr, h⟩
  | _ + 1 => ⟨fun _ => h, by rw [hr]; simp⟩
/-- What waits no more for a load asks nothing for it. -/
theorem relax {C : List Nat} {R : World → Prop} : ∀ {fuel : Nat} {listed : Array Bool} {a : Act} {w : World}, ((List.range ops.size).all fun j => listed.getD j true || C.contains j) = true → wpAnyW P md ops Q Ob fuel listed a w → wpAnyW P md ops Q (Plus Ob C R) fuel listed a w
  | 0, _, _, _, _, h => h
  | fuel + 1, listed, a, w, hc, h => ⟨h.1, fun i hi => by
    obtain ⟨hun, o, ho, _⟩ := mem_ready.1 hi
    have hil : i < ops.size := (Array.getElem?_eq_some_iff.1 ho).1
    have hC : C.contains i = true := by
      have := List.all_eq_true.1 hc i (List.mem_range.2 hil)
      rw [hun, Bool.false_or] at this
      exact this
    refine wpOp_mono (fun a' w' h' => ⟨⟨h'.1, fun hF => (by rw [hC] at hF; cases hF)⟩, relax ?_ h'.2⟩) (h.2 i hi)
    refine List.all_eq_true.2 fun j hj => ?_
    have := List.all_eq_true.1 hc j hj
    rcases Bool.or_eq_true_iff.1 this with h1 | h1
    · by_cases hij : i = j
      · subst hij
        rw [hun] at h1
        cases h1
      · rw [getD_set_ne true hij, h1]
        rfl
    · rw [h1, Bool.or_true]⟩
theorem canon {listed listed' : Array Bool} {fuel : Nat} {a : Act} {w : World} (h : listed = listed') (H : wpAnyW P md ops Q Ob fuel listed' a w) : wpAnyW P md ops Q Ob fuel listed a w := h ▸ H
/-- Nothing is asked at first. -/
def Ob0 (_ : Nat) (_ _ : World) : Prop := True
theorem re0 : ∀ j w, Ob0 j w w := fun _ _ => trivial
theorem rePlus {C : List Nat} {R : World → Prop} (h : ∀ j w, Ob j w w) : ∀ j w, Plus Ob C R j w w := fun j w => ⟨h j w, fun _ h => h⟩
theorem start {id : Nat} {a : Act} {w : World} (hm : P.follows .mixedOrders = true)
    (h : wpAnyW P .any ops Q Ob0 ops.size (Array.replicate ops.size false) a w.drew) : (Code.region id ops true).wp P Q a w :=
  wp_region_any hm (wpAny_of_W _ _ _ _ h)
end
theorem out_of {C : List Nat} {j : Nat} {p q : Prop} (h : C.contains j = true) : C.contains j = false → p → q := fun h' => by rw [h] at h'; cases h'
open Go.ChangeAt Go.RowKit Go.ChangeShapes Go.WideShapes
/-- A cell that is there stays over a call. -/
theorem cell_below {w w' : World} {p : Addr} {u : Value} (hb : Below w.heap.size w w') (h : w.cell? p = some u) : w'.cell? p = some u := by
  have hp : p.block < w.heap.size := by
    rcases Nat.lt_or_ge p.block w.heap.size with h' | h'
    · exact h'
    · exfalso
      unfold World.cell? at h
      rw [Array.getElem?_eq_none h'] at h
      cases h
  exact (hb.cell hp).trans h
theorem cell_grown {w w' : World} {p : Addr} {u : Value} {R : Nat} (g : w.grownBy w' (some R)) (hne : p.block ≠ R) (h : w.cell? p = some u) : w'.cell? p = some u := by
  have hp : p.block < w.heap.size := by
    rcases Nat.lt_or_ge p.block w.heap.size with h' | h'
    · exact h'
    · exfalso
      unfold World.cell? at h
      rw [Array.getElem?_eq_none h'] at h
      cases h
  exact (World.cell?_of_block (g.block p.block hp (fun e => hne (by injection e)))).trans h
/-- What follows a point that several orders come to is proved once. -/
theorem tail7 {α1 α2 α3 α4 α5 α6 α7 : Type} {F G : α1 → α2 → α3 → α4 → α5 → α6 → α7 → Prop} {A : Prop} (main : Shut (∀ x1 x2 x3 x4 x5 x6 x7, F x1 x2 x3 x4 x5 x6 x7 → G x1 x2 x3 x4 x5 x6 x7) → A) (tail : ∀ x1 x2 x3 x4 x5 x6 x7, F x1 x2 x3 x4 x5 x6 x7 → G x1 x2 x3 x4 x5 x6 x7) : A := main tail
end Go.Proofs.Ytmglgjchemecjaa.Rw
/- The program's WarningsOf. -/
namespace Go.Proofs.Ytmglgjchemecjaa.CWarn
set_option maxRecDepth 200000
open Go.ChangeShapes Go.WideShapes Go.ChangeAt Go.RowKit Kit CCode CFixups CSymbols PObj BObj PValid CSecValid CUses CCovers CObjValid PWarn
end Go.Proofs.Ytmglgjchemecjaa.CWarn
