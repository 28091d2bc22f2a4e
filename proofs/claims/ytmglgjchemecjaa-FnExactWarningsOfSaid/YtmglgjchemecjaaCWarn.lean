/- The program's WarningsOf. -/
import Derived.Test.YtmglgjchemecjaaPWarn
namespace Go.Proofs.Ytmglgjchemecjaa.CWarn
set_option maxRecDepth 200000
open Go.ChangeShapes Go.WideShapes Go.ChangeAt Go.RowKit Kit CCode CFixups CSymbols PObj BObj PValid CSecValid CUses CCovers CObjValid PWarn
set_option maxHeartbeats 4000000 in
theorem warningsOf_any (o : OV) (w : World) (hr : RdO w w.heap.size o) (hf : Fit o) (hcz : ∀ p ∈ o.ps, p.zs.length ≤ p.c) :
    Calls Try.prog 11 #[.agg #[.slice o.A o.ps.length o.c, .slice o.Y o.ys.length o.yc]] w (RetW (warns o.d) w) := by
  obtain ⟨i0, hi, hz0, hz1, hz2⟩ := info_parts CWarnings.info
  have HI := hide (And.intro hi (And.intro hz0 (And.intro hz1 hz2)))
  clear hi hz0 hz1 hz2
  obtain ⟨A, c, ps, Y, yc, ys⟩ := o
  have HF := hide hf
  obtain ⟨np, ny, cy, hp, hy⟩ := hf
  simp only at np ny cy hp hy hcz ⊢
  have HR := hide hr
  have HL := hide (And.intro hp (And.intro hy hcz))
  clear hr hp hy hcz
  have B0 : Below w.heap.size w ((w.alloc (.cells #[.slice A ps.length c, .slice Y ys.length yc] 26)).alloc (.cells #[] 31)) := (by repeat (first | exact Below.refl _ _ | with_reducible assumption | (refine Below.drew ?_) | (refine Below.drewN ?_ _) | (refine Below.alloc ?_ (by simp; try omega) _) | (refine Below.setCell ?_ (by simp; try omega) _)))
  have HX0 := hide ((Box.new w 26 #[.slice A ps.length c, .slice Y ys.length yc]).alloc (.cells #[] 31))
  have HB0 := hide B0
  clear B0
  go_enter Try.func11, Try.ntmps11
  go_wp2_with fail
  generalize (w.alloc (.cells #[.slice A ps.length c, .slice Y ys.length yc] 26)).alloc (.cells #[] 31) = w0 at *
  refine (objectValid_any ⟨A, c, ps, Y, yc, ys⟩ w0 ((HR.out.below HB0.out).more HB0.out.size) HF.out).mono ?_
  rintro e w1 ⟨rfl, b1⟩
  have HX := hide (HX0.out.call b1)
  have HB := hide (HB0.out.trans (b1.mono HB0.out.size))
  clear b1 HX0 HB0
  cases hok : objOk (OV.d ⟨A, c, ps, Y, yc, ys⟩)
  · have HV := hide (show warns (OV.d ⟨A, c, ps, Y, yc, ys⟩) = [] by rw [warns, hok]; rfl)
    go_wp2_with fail
    go_ret
    rw [HV.out]
    exact ⟨some ⟨w.heap.size + 1, 0, none⟩, 0, rfl, Row.empty _ _ _ _ _, HB.out⟩
  have HV := hide (show warns (OV.d ⟨A, c, ps, Y, yc, ys⟩) = list (OV.d ⟨A, c, ps, Y, yc, ys⟩) by rw [warns, hok]; rfl)
  obtain ⟨b1, b2, hin⟩ := obj_facts hok
  simp only [OV.d, List.length_map] at b1 b2
  have HIN := hide (show ∀ p ∈ ps, InB p.zs p.fs from fun p hp => hin p.d (List.mem_map_of_mem hp))
  clear hin hok
  have hx := HX.out
  have x0 := hx.cell 0
  have x1 := hx.cell 1
  simp only [List.getElem?_toArray, List.getElem?_cons_zero, List.getElem?_cons_succ] at x0 x1
  clear hx
  go_wp2_with fail
  clear x0 x1
  have hL1 : ∀ n, (upto (at1 ⟨ps.map SV.d, ys⟩) n).length ≤ n := upto_len (at1_len _)
  have hL2 : ∀ n, (upto (at2 ⟨ps.map SV.d, ys⟩) n).length ≤ n := upto_len (at2_len _)
  have hL3 : ∀ n, (upto (at3 ⟨ps.map SV.d, ys⟩) n).length ≤ n := upto_len (at3_len _)
  have HL1 := hide hL1
  have HL2 := hide hL2
  have HL3 := hide hL3
  clear hL1 hL2 hL3
  go_loopw [3, 18] (fun sl i wi => ∃ (k : Nat) (A1 : Option Addr) (c1 : Nat) (L : List WD), k ≤ ys.length ∧ i = .int .i64 k ∧ sl = .slice A1 L.length c1 ∧ L = upto (at1 ⟨ps.map SV.d, ys⟩) k ∧ Row wi w.heap.size 31 2 A1 L.length c1 (cellsOf CWarnings.warningC L) ∧ Box wi w.heap.size 26 #[.slice A ps.length c, .slice Y ys.length yc] ∧ Below w.heap.size w wi) (fun _ i _ => ys.length - (intOf i).toNat)
  case atStart => exact ⟨0, some ⟨w.heap.size + 1, 0, none⟩, 0, [], Nat.zero_le _, rfl, rfl, rfl, Row.empty _ _ _ _ _, HX.out, HB.out⟩
  case round =>
    clear HX HB
    obtain ⟨k, A1, c1, L, hk, rfl, rfl, hLe, ho, hx, hb⟩ := hrel
    have hLl : L.length ≤ 28 := by have := HL1.out k; rw [hLe]; omega
    have HLE := hide hLe
    have HO := hide ho
    have HX := hide hx
    have HB := hide hb
    have x0 := hx.cell 0
    have x1 := hx.cell 1
    simp only [List.getElem?_toArray, List.getElem?_cons_zero, List.getElem?_cons_succ] at x0 x1
    have hxl := hx.lt
    by_cases hlt : k < ys.length
    · obtain ⟨b, off, hY, hbg, hc⟩ := (HR.out.2.below hb).row symbolC_len (by decide) hlt
      have hc0 := hc 0 _ rfl
      have hc1 := hc 1 _ rfl
      have hc2 := hc 2 _ rfl
      have hc3 := hc 3 _ rfl
      simp only [Nat.add_zero] at hc0
      have HA := hide (show at1 ⟨ps.map SV.d, ys⟩ k = if ys[k].2.2.1 = -1 ∧ used (ps.map SV.d) k = false then [((1 : Int), (k : Int))] else [] by unfold at1; rw [getD_at hlt])
      have HU := hide (show upto (at1 ⟨ps.map SV.d, ys⟩) (k + 1) = L ++ at1 ⟨ps.map SV.d, ys⟩ k by rw [upto_succ, hLe])
      clear hLe ho hx hb hc
      subst hY
      generalize ys[k] = z at *
      obtain ⟨zn, zb, zw, zv⟩ := z
      simp only at hc0 hc1 hc2 hc3 HA
      by_cases h1 : zw = -1
      · have e1 : (zw == -1) = true := beq_iff_eq.2 h1
        have H1 := hide h1
        clear h1
        go_wp2_with fail
        have HX1 := hide (HX.out.alloc (.cells #[.string zn, .int .i64 zb, .int .i64 zw, .int .i64 zv] 69))
        have HB1 := hide (HB.out.alloc HB.out.size (.cells #[.string zn, .int .i64 zb, .int .i64 zw, .int .i64 zv] 69))
        have HO1 := hide (HO.out.alloc (.cells #[.string zn, .int .i64 zb, .int .i64 zw, .int .i64 zv] 69))
        clear HX HB HO hc0 hc1 hc2 hc3 x0 x1
        generalize wr.alloc (.cells #[.string zn, .int .i64 zb, .int .i64 zw, .int .i64 zv] 69) = wa at *
        refine (uses_any ⟨A, c, ps, some ⟨b, off, none⟩, yc, ys⟩ k wa ((HR.out.below HB1.out).more HB1.out.size) (Nat.le_trans np (by decide)) (fun p hp => Nat.le_trans (HL.out.1 p hp).2.2 (by decide))).mono ?_
        rintro e w2 ⟨rfl, bb⟩
        have HX := hide (HX1.out.call bb)
        have HB := hide (HB1.out.trans (bb.mono HB1.out.size))
        have HO := hide (HO1.out.call bb)
        clear bb HX1 HB1 HO1
        simp only [OV.d]
        cases hu : used (ps.map SV.d) k
        · rw [hu, if_pos ⟨H1.out, rfl⟩] at HA
          clear H1 e1 hu
          go_wp2_with (at_builtin; refine wpList_app (w2.alloc (.cells #[.int .i64 1, .int .i64 k] 31)) rfl (.tmp 32) (.tmp 35) 28 rfl 31 i0 (.agg #[.int .i64 0, .int .i64 0]) 2 16 Try.underlying28 HI.out.1 HI.out.2.1 HI.out.2.2.1 HI.out.2.2.2 rfl (by decide) w.heap.size A1 L.length c1 (cellsOf CWarnings.warningC L) rfl (HO.out.alloc _) ?hb (some ⟨w2.heap.size, 0, none⟩) 1 1 [.int .i64 1, .int .i64 k] rfl (rd_lit w2 #[.int .i64 1, .int .i64 k] 31 _ rfl) rfl (fun h => by cases h) ?o1 ?n1 ?n2 ?_)
          case hb => exact (HB.out.alloc HB.out.size _).size
          case o1 => intro u hu; simp only [List.mem_cons, List.not_mem_nil, or_false] at hu; rcases hu with rfl | rfl <;> rfl
          case n1 => unfold maxLen; omega
          case n2 => omega
          intro A3 n3 c3 w3 hn3 o3 g3 k3
          subst hn3
          have HB3 := hide (show Below w.heap.size w w3 from (HB.out.alloc HB.out.size _).grown g3 (HB.out.alloc HB.out.size _).size (fun j hj => (HO.out.lt j hj).1))
          have HX3 := hide ((HX.out.alloc (.cells #[.int .i64 1, .int .i64 k] 31)).grown g3 (fun j hj => (HO.out.alloc (.cells #[.int .i64 1, .int .i64 k] 31)).box (HX.out.alloc _) (by decide) j hj))
          have HO3 := hide (show Row w3 w.heap.size 31 2 A3 (L ++ [((1 : Int), (k : Int))]).length c3 (cellsOf CWarnings.warningC (L ++ [((1 : Int), (k : Int))])) by rw [List.length_append]; simpa [cellsOf, CWarnings.warningC] using o3)
          clear o3 g3 k3 HO HB HX
          go_wp2_with fail
          refine ⟨⟨k + 1, A3, c3, L ++ [(1, (k : Int))], by omega, by go_num, by simp, by rw [HU.out, HA.out], HO3.out, HX3.out, HB3.out⟩, by simp [intOf]; omega⟩
        · rw [hu, if_neg (fun h => by cases h.2)] at HA
          clear H1 e1 hu
          go_wp2_with fail
          refine ⟨⟨k + 1, A1, c1, L, by omega, by go_num, rfl, by rw [HU.out, HA.out, List.append_nil], HO.out, HX.out, HB.out⟩, by simp [intOf]; omega⟩
      · have e1 : (zw == -1) = false := beq_eq_false_iff_ne.2 h1
        rw [if_neg (fun h => h1 h.1)] at HA
        clear h1
        go_wp2_with fail
        refine ⟨⟨k + 1, A1, c1, L, by omega, by go_num, rfl, by rw [HU.out, HA.out, List.append_nil], HO.out.alloc _, HX.out.alloc _, HB.out.alloc HB.out.size _⟩, by simp [intOf]; omega⟩
    · have e : k = ys.length := by omega
      subst e
      clear ho hx hb
      go_wp2_with fail
      clear x0 x1
      have HP := hide HLE.out
      generalize hP : L = P at *
      have hPl : P.length ≤ 12 := by have := HL1.out ys.length; rw [hLe]; omega
      clear hLe HLE hLl hP
      go_loopw [3, 41] (fun sl i wi => ∃ (k : Nat) (A1 : Option Addr) (c1 : Nat) (L : List WD), k ≤ ps.length ∧ i = .int .i64 k ∧ sl = .slice A1 L.length c1 ∧ L = P ++ upto (at2 ⟨ps.map SV.d, ys⟩) k ∧ Row wi w.heap.size 31 2 A1 L.length c1 (cellsOf CWarnings.warningC L) ∧ Box wi w.heap.size 26 #[.slice A ps.length c, .slice Y ys.length yc] ∧ Below w.heap.size w wi) (fun _ i _ => ps.length - (intOf i).toNat)
      case atStart => exact ⟨0, A1, c1, P, Nat.zero_le _, rfl, rfl, by simp [upto], HO.out, HX.out, HB.out⟩
      case round =>
        clear HX HB HO
        obtain ⟨k, A1, c1, L, hk, rfl, rfl, hLe, ho, hx, hb⟩ := hrel
        have hLl : L.length ≤ 28 := by have := HL2.out k; rw [hLe, List.length_append]; omega
        have HLE := hide hLe
        have HO := hide ho
        have HX := hide hx
        have HB := hide hb
        have x0 := hx.cell 0
        have x1 := hx.cell 1
        simp only [List.getElem?_toArray, List.getElem?_cons_zero, List.getElem?_cons_succ] at x0 x1
        have hxl := hx.lt
        by_cases hlt : k < ps.length
        · obtain ⟨b, off, hA, hbg, hc⟩ := (HR.out.1.1.below hb).row secC_len (by decide) hlt
          have hc0 := hc 0 _ rfl
          have hc1 := hc 1 _ rfl
          have hc2 := hc 2 _ rfl
          have hc3 := hc 3 _ rfl
          have hc4 := hc 4 _ rfl
          have hc5 := hc 5 _ rfl
          simp only [Nat.add_zero] at hc0
          have HA := hide (show at2 ⟨ps.map SV.d, ys⟩ k = if secSize ps[k].d = 0 then [((2 : Int), (k : Int))] else [] by unfold at2; rw [getS hlt])
          have HU := hide (show P ++ upto (at2 ⟨ps.map SV.d, ys⟩) (k + 1) = L ++ at2 ⟨ps.map SV.d, ys⟩ k by rw [upto_succ, hLe, List.append_assoc])
          have HM := hide (HL.out.1 _ (List.getElem_mem hlt))
          have HCZ := hide (HL.out.2.2 _ (List.getElem_mem hlt))
          have HRS := hide (HR.out.1.2 _ (List.getElem_mem hlt))
          have HINP := hide (HIN.out _ (List.getElem_mem hlt))
          clear hLe ho hx hb hc
          subst hA
          generalize ps[k] = p at *
          go_wp2_with fail
          have HX1 := hide (HX.out.alloc (.cells #[.string p.nm, .int .i64 p.kd, .int .i64 p.al, .slice p.A p.zs.length p.c, .int .i64 p.sz, .slice p.F p.fs.length p.fc] 73))
          have HB1 := hide (HB.out.alloc HB.out.size (.cells #[.string p.nm, .int .i64 p.kd, .int .i64 p.al, .slice p.A p.zs.length p.c, .int .i64 p.sz, .slice p.F p.fs.length p.fc] 73))
          have HO1 := hide (HO.out.alloc (.cells #[.string p.nm, .int .i64 p.kd, .int .i64 p.al, .slice p.A p.zs.length p.c, .int .i64 p.sz, .slice p.F p.fs.length p.fc] 73))
          clear HX HB HO hc0 hc1 hc2 hc3 hc4 hc5 x0 x1
          generalize wr.alloc (.cells #[.string p.nm, .int .i64 p.kd, .int .i64 p.al, .slice p.A p.zs.length p.c, .int .i64 p.sz, .slice p.F p.fs.length p.fc] 73) = wa at *
          refine (sectionSize_any p wa (Nat.le_trans HM.out.2.1 (by decide))).mono ?_
          rintro e w2 ⟨rfl, bb⟩
          have HX := hide (HX1.out.call bb)
          have HB := hide (HB1.out.trans (bb.mono HB1.out.size))
          have HO := hide (HO1.out.call bb)
          clear bb HX1 HB1 HO1
          generalize secSize p.d = q at *
          by_cases h1 : q = 0
          · have e1 : (q == 0) = true := beq_iff_eq.2 h1
            rw [if_pos h1] at HA
            clear h1
            go_wp2_with (at_builtin; refine wpList_app (w2.alloc (.cells #[.int .i64 2, .int .i64 k] 31)) rfl (.tmp 49) (.tmp 52) 28 rfl 31 i0 (.agg #[.int .i64 0, .int .i64 0]) 2 16 Try.underlying28 HI.out.1 HI.out.2.1 HI.out.2.2.1 HI.out.2.2.2 rfl (by decide) w.heap.size A1 L.length c1 (cellsOf CWarnings.warningC L) rfl (HO.out.alloc _) ?hb (some ⟨w2.heap.size, 0, none⟩) 1 1 [.int .i64 2, .int .i64 k] rfl (rd_lit w2 #[.int .i64 2, .int .i64 k] 31 _ rfl) rfl (fun h => by cases h) ?o1 ?n1 ?n2 ?_)
            case hb => exact (HB.out.alloc HB.out.size _).size
            case o1 => intro u hu; simp only [List.mem_cons, List.not_mem_nil, or_false] at hu; rcases hu with rfl | rfl <;> rfl
            case n1 => unfold maxLen; omega
            case n2 => omega
            intro A3 n3 c3 w3 hn3 o3 g3 k3
            subst hn3
            have HB3 := hide (show Below w.heap.size w w3 from (HB.out.alloc HB.out.size _).grown g3 (HB.out.alloc HB.out.size _).size (fun j hj => (HO.out.lt j hj).1))
            have HX3 := hide ((HX.out.alloc (.cells #[.int .i64 2, .int .i64 k] 31)).grown g3 (fun j hj => (HO.out.alloc (.cells #[.int .i64 2, .int .i64 k] 31)).box (HX.out.alloc _) (by decide) j hj))
            have HO3 := hide (show Row w3 w.heap.size 31 2 A3 (L ++ [((2 : Int), (k : Int))]).length c3 (cellsOf CWarnings.warningC (L ++ [((2 : Int), (k : Int))])) by rw [List.length_append]; simpa [cellsOf, CWarnings.warningC] using o3)
            clear o3 g3 k3 HO HB HX
            go_wp2_with fail
            refine ⟨⟨k + 1, A3, c3, L ++ [(2, (k : Int))], by omega, by go_num, by simp, by rw [HU.out, HA.out], HO3.out, HX3.out, HB3.out⟩, by simp [intOf]; omega⟩
          · have e1 : (q == 0) = false := beq_eq_false_iff_ne.2 h1
            rw [if_neg h1] at HA
            clear h1
            go_wp2_with fail
            refine ⟨⟨k + 1, A1, c1, L, by omega, by go_num, rfl, by rw [HU.out, HA.out, List.append_nil], HO.out, HX.out, HB.out⟩, by simp [intOf]; omega⟩
        · have e : k = ps.length := by omega
          subst e
          clear ho hx hb
          go_wp2_with fail
          clear x0 x1
          have HP2 := hide (show L = upto (at1 ⟨ps.map SV.d, ys⟩) ys.length ++ upto (at2 ⟨ps.map SV.d, ys⟩) ps.length by rw [HLE.out, HP.out])
          have hPl2 : L.length ≤ 20 := by have := HL2.out ps.length; rw [HLE.out, List.length_append]; omega
          clear HLE hLl HP hPl hLe
          generalize hP : L = P2 at *
          clear hP
          go_loopw [3, 58] (fun sl i wi => ∃ (k : Nat) (A1 : Option Addr) (c1 : Nat) (L : List WD), k ≤ ps.length ∧ i = .int .i64 k ∧ sl = .slice A1 L.length c1 ∧ L = P2 ++ upto (at3 ⟨ps.map SV.d, ys⟩) k ∧ Row wi w.heap.size 31 2 A1 L.length c1 (cellsOf CWarnings.warningC L) ∧ Box wi w.heap.size 26 #[.slice A ps.length c, .slice Y ys.length yc] ∧ Below w.heap.size w wi) (fun _ i _ => ps.length - (intOf i).toNat)
          case atStart => exact ⟨0, A1, c1, P2, Nat.zero_le _, rfl, rfl, by simp [upto], HO.out, HX.out, HB.out⟩
          case round =>
            clear HX HB HO
            obtain ⟨k, A1, c1, L, hk, rfl, rfl, hLe, ho, hx, hb⟩ := hrel
            have hLl : L.length ≤ 28 := by have := HL3.out k; rw [hLe, List.length_append]; omega
            have HLE := hide hLe
            have HO := hide ho
            have HX := hide hx
            have HB := hide hb
            have x0 := hx.cell 0
            have x1 := hx.cell 1
            simp only [List.getElem?_toArray, List.getElem?_cons_zero, List.getElem?_cons_succ] at x0 x1
            have hxl := hx.lt
            by_cases hlt : k < ps.length
            · obtain ⟨b, off, hA, hbg, hc⟩ := (HR.out.1.1.below hb).row secC_len (by decide) hlt
              have hc0 := hc 0 _ rfl
              have hc1 := hc 1 _ rfl
              have hc2 := hc 2 _ rfl
              have hc3 := hc 3 _ rfl
              have hc4 := hc 4 _ rfl
              have hc5 := hc 5 _ rfl
              simp only [Nat.add_zero] at hc0
              have HA := hide (show at3 ⟨ps.map SV.d, ys⟩ k = if coverB ps[k].d = true then [((3 : Int), (k : Int))] else [] by unfold at3; rw [getS hlt])
              have HU := hide (show P2 ++ upto (at3 ⟨ps.map SV.d, ys⟩) (k + 1) = L ++ at3 ⟨ps.map SV.d, ys⟩ k by rw [upto_succ, hLe, List.append_assoc])
              have HM := hide (HL.out.1 _ (List.getElem_mem hlt))
              have HCZ := hide (HL.out.2.2 _ (List.getElem_mem hlt))
              have HRS := hide (HR.out.1.2 _ (List.getElem_mem hlt))
              have HINP := hide (HIN.out _ (List.getElem_mem hlt))
              clear hLe ho hx hb hc
              subst hA
              generalize ps[k] = p at *
              go_wp2_with fail
              have HX1 := hide (HX.out.alloc (.cells #[.string p.nm, .int .i64 p.kd, .int .i64 p.al, .slice p.A p.zs.length p.c, .int .i64 p.sz, .slice p.F p.fs.length p.fc] 73))
              have HB1 := hide (HB.out.alloc HB.out.size (.cells #[.string p.nm, .int .i64 p.kd, .int .i64 p.al, .slice p.A p.zs.length p.c, .int .i64 p.sz, .slice p.F p.fs.length p.fc] 73))
              have HO1 := hide (HO.out.alloc (.cells #[.string p.nm, .int .i64 p.kd, .int .i64 p.al, .slice p.A p.zs.length p.c, .int .i64 p.sz, .slice p.F p.fs.length p.fc] 73))
              clear HX HB HO hc0 hc1 hc2 hc3 hc4 hc5 x0 x1
              generalize wr.alloc (.cells #[.string p.nm, .int .i64 p.kd, .int .i64 p.al, .slice p.A p.zs.length p.c, .int .i64 p.sz, .slice p.F p.fs.length p.fc] 73) = wa at *
              refine (covers_any p wa ((HRS.out.below HB1.out).more HB1.out.size) HM.out.2.1 HM.out.2.2 HCZ.out HINP.out).mono ?_
              rintro e w2 ⟨rfl, bb⟩
              have HX := hide (HX1.out.call bb)
              have HB := hide (HB1.out.trans (bb.mono HB1.out.size))
              have HO := hide (HO1.out.call bb)
              clear bb HX1 HB1 HO1
              cases h1 : coverB p.d
              · rw [h1, if_neg (by decide)] at HA
                clear h1
                go_wp2_with fail
                refine ⟨⟨k + 1, A1, c1, L, by omega, by go_num, rfl, by rw [HU.out, HA.out, List.append_nil], HO.out, HX.out, HB.out⟩, by simp [intOf]; omega⟩
              · rw [h1, if_pos rfl] at HA
                clear h1
                go_wp2_with (at_builtin; refine wpList_app (w2.alloc (.cells #[.int .i64 3, .int .i64 k] 31)) rfl (.tmp 65) (.tmp 68) 28 rfl 31 i0 (.agg #[.int .i64 0, .int .i64 0]) 2 16 Try.underlying28 HI.out.1 HI.out.2.1 HI.out.2.2.1 HI.out.2.2.2 rfl (by decide) w.heap.size A1 L.length c1 (cellsOf CWarnings.warningC L) rfl (HO.out.alloc _) ?hb (some ⟨w2.heap.size, 0, none⟩) 1 1 [.int .i64 3, .int .i64 k] rfl (rd_lit w2 #[.int .i64 3, .int .i64 k] 31 _ rfl) rfl (fun h => by cases h) ?o1 ?n1 ?n2 ?_)
                case hb => exact (HB.out.alloc HB.out.size _).size
                case o1 => intro u hu; simp only [List.mem_cons, List.not_mem_nil, or_false] at hu; rcases hu with rfl | rfl <;> rfl
                case n1 => unfold maxLen; omega
                case n2 => omega
                intro A3 n3 c3 w3 hn3 o3 g3 k3
                subst hn3
                have HB3 := hide (show Below w.heap.size w w3 from (HB.out.alloc HB.out.size _).grown g3 (HB.out.alloc HB.out.size _).size (fun j hj => (HO.out.lt j hj).1))
                have HX3 := hide ((HX.out.alloc (.cells #[.int .i64 3, .int .i64 k] 31)).grown g3 (fun j hj => (HO.out.alloc (.cells #[.int .i64 3, .int .i64 k] 31)).box (HX.out.alloc _) (by decide) j hj))
                have HO3 := hide (show Row w3 w.heap.size 31 2 A3 (L ++ [((3 : Int), (k : Int))]).length c3 (cellsOf CWarnings.warningC (L ++ [((3 : Int), (k : Int))])) by rw [List.length_append]; simpa [cellsOf, CWarnings.warningC] using o3)
                clear o3 g3 k3 HO HB HX
                go_wp2_with fail
                refine ⟨⟨k + 1, A3, c3, L ++ [(3, (k : Int))], by omega, by go_num, by simp, by rw [HU.out, HA.out], HO3.out, HX3.out, HB3.out⟩, by simp [intOf]; omega⟩
            · have e : k = ps.length := by omega
              subst e
              clear ho hx hb
              go_wp2_with fail
              clear x0 x1
              have HV2 := hide (show L = warns (OV.d ⟨A, c, ps, Y, yc, ys⟩) by rw [HLE.out, HP2.out]; refine Eq.trans ?_ HV.out.symm; simp [list, OV.d])
              go_ret
              exact ⟨A1, c1, by rw [← HV2.out]; rfl, by rw [← HV2.out]; exact HO.out, HB.out⟩

end Go.Proofs.Ytmglgjchemecjaa.CWarn
