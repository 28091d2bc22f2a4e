/- The reference's WarningsOf. -/
import Derived.Test.YtmglgjchemecjaaFnWarningsOfM13
import Derived.BigQuiet
namespace Go.Proofs.Ytmglgjchemecjaa.CWarnS
set_option maxRecDepth 200000
open Go.ChangeShapes Go.WideShapes Go.ChangeAt Go.RowKit Kit CCode CFixups CSymbols PObj BObj PValid CSecValid CUses CCovers CObjValid PWarn
set_option maxHeartbeats 4000000 in
theorem warningsOfS_any (o : OV) (w : World) (hr : RdO w w.heap.size o) (hf : Fit o) (hcz : ∀ p ∈ o.ps, p.zs.length ≤ p.c) :
    Calls Try.prog 12 #[.agg #[.slice o.A o.ps.length o.c, .slice o.Y o.ys.length o.yc]] w (RetW (warns o.d) w) := by
  obtain ⟨i0, hi, hz0, hz1, hz2⟩ := info_parts CWarnings.info
  have HI := hide (And.intro hi (And.intro hz0 (And.intro hz1 hz2)))
  clear hi hz0 hz1 hz2
  obtain ⟨A, c, ps, Y, yc, ys⟩ := o
  have HF := hide hf
  obtain ⟨np, ny, cy, hp, hy⟩ := hf
  simp only at np ny cy hp hy hcz ⊢
  have HR := hide hr
  have HL := hide (And.intro hp (And.intro hy hcz))
  clear hr hp hy hcz
  have B0 : Below w.heap.size w ((w.alloc (.cells #[.slice A ps.length c, .slice Y ys.length yc] 26)).alloc (.cells #[] 31)) := (by repeat (first | exact Below.refl _ _ | with_reducible assumption | (refine Below.drew ?_) | (refine Below.drewN ?_ _) | (refine Below.alloc ?_ (by simp; try omega) _) | (refine Below.setCell ?_ (by simp; try omega) _)))
  have HX0 := hide ((Box.new w 26 #[.slice A ps.length c, .slice Y ys.length yc]).alloc (.cells #[] 31))
  have HB0 := hide B0
  clear B0
  go_enter Try.func12, Try.ntmps12
  go_wp2_with fail
  generalize (w.alloc (.cells #[.slice A ps.length c, .slice Y ys.length yc] 26)).alloc (.cells #[] 31) = w0 at *
  refine (CObjValidS.objectValidS_any ⟨A, c, ps, Y, yc, ys⟩ w0 ((HR.out.below HB0.out).more HB0.out.size) HF.out).mono ?_
  rintro e w1 ⟨rfl, b1⟩
  have HX := hide (HX0.out.call b1)
  have HB := hide (HB0.out.trans (b1.mono HB0.out.size))
  clear b1 HX0 HB0
  cases hok : objOk (OV.d ⟨A, c, ps, Y, yc, ys⟩)
  · have HV := hide (show warns (OV.d ⟨A, c, ps, Y, yc, ys⟩) = [] by rw [warns, hok]; rfl)
    go_wp2_with fail
    go_ret
    rw [HV.out]
    exact ⟨some ⟨w.heap.size + 1, 0, none⟩, 0, rfl, Row.empty _ _ _ _ _, HB.out⟩
  have HV := hide (show warns (OV.d ⟨A, c, ps, Y, yc, ys⟩) = list (OV.d ⟨A, c, ps, Y, yc, ys⟩) by rw [warns, hok]; rfl)
  obtain ⟨b1, b2, hin⟩ := obj_facts hok
  simp only [OV.d, List.length_map] at b1 b2
  have HIN := hide (show ∀ p ∈ ps, InB p.zs p.fs from fun p hp => hin p.d (List.mem_map_of_mem hp))
  clear hin hok
  have hx := HX.out
  have x0 := hx.cell 0
  have x1 := hx.cell 1
  simp only [List.getElem?_toArray, List.getElem?_cons_zero, List.getElem?_cons_succ] at x0 x1
  clear hx
  go_wp2_with fail
  clear x0 x1
  have hL1 : ∀ n, (upto (at1 ⟨ps.map SV.d, ys⟩) n).length ≤ n := upto_len (at1_len _)
  have hL2 : ∀ n, (upto (at2 ⟨ps.map SV.d, ys⟩) n).length ≤ n := upto_len (at2_len _)
  have hL3 : ∀ n, (upto (at3 ⟨ps.map SV.d, ys⟩) n).length ≤ n := upto_len (at3_len _)
  have HL1 := hide hL1
  have HL2 := hide hL2
  have HL3 := hide hL3
  clear hL1 hL2 hL3
  go_loopw [3, 4] (fun sl i wi => ∃ (k : Nat) (A1 : Option Addr) (c1 : Nat) (L : List WD), k ≤ ys.length ∧ i = .int .i64 k ∧ sl = .slice A1 L.length c1 ∧ L = upto (at1 ⟨ps.map SV.d, ys⟩) k ∧ Row wi w.heap.size 31 2 A1 L.length c1 (cellsOf CWarnings.warningC L) ∧ Box wi w.heap.size 26 #[.slice A ps.length c, .slice Y ys.length yc] ∧ Below w.heap.size w wi) (fun _ i _ => ys.length - (intOf i).toNat)
  case atStart => exact ⟨0, some ⟨w.heap.size + 1, 0, none⟩, 0, [], Nat.zero_le _, rfl, rfl, rfl, Row.empty _ _ _ _ _, HX.out, HB.out⟩
  case round =>
    clear HX HB
    obtain ⟨k, A1, c1, L, hk, rfl, rfl, hLe, ho, hx, hb⟩ := hrel
    have hLl : L.length ≤ 28 := by have := HL1.out k; rw [hLe]; omega
    have HLE := hide hLe
    have HO := hide ho
    have HX := hide hx
    have HB := hide hb
    have x0 := hx.cell 0
    have x1 := hx.cell 1
    simp only [List.getElem?_toArray, List.getElem?_cons_zero, List.getElem?_cons_succ] at x0 x1
    have hxl := hx.lt
    by_cases hlt : k < ys.length
    · obtain ⟨b, off, hY, hbg, hc⟩ := (HR.out.2.below hb).row symbolC_len (by decide) hlt
      have hc2 := hc 2 _ rfl
      have HA := hide (show at1 ⟨ps.map SV.d, ys⟩ k = if ys[k].2.2.1 = -1 ∧ used (ps.map SV.d) k = false then [((1 : Int), (k : Int))] else [] by unfold at1; rw [getD_at hlt])
      have HU := hide (show upto (at1 ⟨ps.map SV.d, ys⟩) (k + 1) = L ++ at1 ⟨ps.map SV.d, ys⟩ k by rw [upto_succ, hLe])
      clear hLe ho hx hb hc
      subst hY
      generalize ys[k] = z at *
      obtain ⟨zn, zb, zw, zv⟩ := z
      simp only at hc2 HA
      by_cases h1 : zw = -1
      · have e1 : (zw == -1) = true := beq_iff_eq.2 h1
        have H1 := hide h1
        clear h1
        go_wp2_with fail
        refine (l9Used_any ⟨A, c, ps, some ⟨b, off, none⟩, yc, ys⟩ k wr ((HR.out.below HB.out).more HB.out.size) (Nat.le_trans np (by decide)) (fun p hp => Nat.le_trans (HL.out.1 p hp).2.2 (by decide))).mono ?_
        rintro e w2 ⟨rfl, bb⟩
        have HX2 := hide (HX.out.call bb)
        have HB2 := hide (HB.out.trans (bb.mono HB.out.size))
        have HO2 := hide (HO.out.call bb)
        clear bb HX HB HO x0 x1 hc2
        have HX := hide HX2.out
        have HB := hide HB2.out
        have HO := hide HO2.out
        clear HX2 HB2 HO2
        simp only [OV.d]
        cases hu : used (ps.map SV.d) k
        · rw [hu, if_pos ⟨H1.out, rfl⟩] at HA
          clear H1 e1 hu
          go_wp2_with (at_builtin; refine wpList_app (w2.alloc (.cells #[.int .i64 1, .int .i64 k] 31)) rfl (.tmp 36) (.tmp 39) 28 rfl 31 i0 (.agg #[.int .i64 0, .int .i64 0]) 2 16 Try.underlying28 HI.out.1 HI.out.2.1 HI.out.2.2.1 HI.out.2.2.2 rfl (by decide) w.heap.size A1 L.length c1 (cellsOf CWarnings.warningC L) rfl (HO.out.alloc _) ?hb (some ⟨w2.heap.size, 0, none⟩) 1 1 [.int .i64 1, .int .i64 k] rfl (rd_lit w2 #[.int .i64 1, .int .i64 k] 31 _ rfl) rfl (fun h => by cases h) ?o1 ?n1 ?n2 ?_)
          case hb => exact (HB.out.alloc HB.out.size _).size
          case o1 => intro u hu; simp only [List.mem_cons, List.not_mem_nil, or_false] at hu; rcases hu with rfl | rfl <;> rfl
          case n1 => unfold maxLen; omega
          case n2 => omega
          intro A3 n3 c3 w3 hn3 o3 g3 k3
          subst hn3
          have HB3 := hide (show Below w.heap.size w w3 from (HB.out.alloc HB.out.size _).grown g3 (HB.out.alloc HB.out.size _).size (fun j hj => (HO.out.lt j hj).1))
          have HX3 := hide ((HX.out.alloc (.cells #[.int .i64 1, .int .i64 k] 31)).grown g3 (fun j hj => (HO.out.alloc (.cells #[.int .i64 1, .int .i64 k] 31)).box (HX.out.alloc _) (by decide) j hj))
          have HO3 := hide (show Row w3 w.heap.size 31 2 A3 (L ++ [((1 : Int), (k : Int))]).length c3 (cellsOf CWarnings.warningC (L ++ [((1 : Int), (k : Int))])) by rw [List.length_append]; simpa [cellsOf, CWarnings.warningC] using o3)
          clear o3 g3 k3 HO HB HX
          go_wp2_with fail
          refine ⟨⟨k + 1, A3, c3, L ++ [(1, (k : Int))], by omega, by go_num, by simp, by rw [HU.out, HA.out], HO3.out, HX3.out, HB3.out⟩, by simp [intOf]; omega⟩
        · rw [hu, if_neg (fun h => by cases h.2)] at HA
          clear H1 e1 hu
          go_wp2_with fail
          refine ⟨⟨k + 1, A1, c1, L, by omega, by go_num, rfl, by rw [HU.out, HA.out, List.append_nil], HO.out, HX.out, HB.out⟩, by simp [intOf]; omega⟩
      · have e1 : (zw == -1) = false := beq_eq_false_iff_ne.2 h1
        rw [if_neg (fun h => h1 h.1)] at HA
        clear h1
        go_wp2_with fail
        refine ⟨⟨k + 1, A1, c1, L, by omega, by go_num, rfl, by rw [HU.out, HA.out, List.append_nil], HO.out, HX.out, HB.out⟩, by simp [intOf]; omega⟩
    · have e : k = ys.length := by omega
      subst e
      clear ho hx hb
      go_wp2_with fail
      clear x0 x1
      have HP := hide HLE.out
      generalize hP : L = P at *
      have hPl : P.length ≤ 12 := by have := HL1.out ys.length; rw [hLe]; omega
      clear hLe HLE hLl hP
      go_loopw [3, 5] (fun sl i wi => ∃ (k : Nat) (A1 : Option Addr) (c1 : Nat) (L : List WD), k ≤ ps.length ∧ i = .int .i64 k ∧ sl = .slice A1 L.length c1 ∧ L = P ++ upto (at2 ⟨ps.map SV.d, ys⟩) k ∧ Row wi w.heap.size 31 2 A1 L.length c1 (cellsOf CWarnings.warningC L) ∧ Box wi w.heap.size 26 #[.slice A ps.length c, .slice Y ys.length yc] ∧ Below w.heap.size w wi) (fun _ i _ => ps.length - (intOf i).toNat)
      case atStart => exact ⟨0, A1, c1, P, Nat.zero_le _, rfl, rfl, by simp [upto], HO.out, HX.out, HB.out⟩
      case round =>
        clear HO
        clear HX HB
        obtain ⟨k, A1, c1, L, hk, rfl, rfl, hLe, ho, hx, hb⟩ := hrel
        have hLl : L.length ≤ 28 := by have := HL2.out k; rw [hLe, List.length_append]; omega
        have HLE := hide hLe
        have HO := hide ho
        have HX := hide hx
        have HB := hide hb
        have x0 := hx.cell 0
        have x1 := hx.cell 1
        simp only [List.getElem?_toArray, List.getElem?_cons_zero, List.getElem?_cons_succ] at x0 x1
        have hxl := hx.lt
        by_cases hlt : k < ps.length
        · obtain ⟨b, off, hA, hbg, hc⟩ := (HR.out.1.1.below hb).row secC_len (by decide) hlt
          have hc0 := hc 0 _ rfl
          have hc1 := hc 1 _ rfl
          have hc2 := hc 2 _ rfl
          have hc3 := hc 3 _ rfl
          have hc4 := hc 4 _ rfl
          have hc5 := hc 5 _ rfl
          simp only [Nat.add_zero] at hc0
          have HA := hide (show at2 ⟨ps.map SV.d, ys⟩ k = if secSize ps[k].d = 0 then [((2 : Int), (k : Int))] else [] by unfold at2; rw [getS hlt])
          have HU := hide (show P ++ upto (at2 ⟨ps.map SV.d, ys⟩) (k + 1) = L ++ at2 ⟨ps.map SV.d, ys⟩ k by rw [upto_succ, hLe, List.append_assoc])
          have HM := hide (HL.out.1 _ (List.getElem_mem hlt))
          clear hLe ho hx hb hc
          subst hA
          generalize ps[k] = p at *
          go_wp2_with fail
          refine (sectionSizeS_any p wr (Nat.le_trans HM.out.2.1 (by decide))).mono ?_
          rintro e w2 ⟨rfl, bb⟩
          have HX2 := hide (HX.out.call bb)
          have HB2 := hide (HB.out.trans (bb.mono HB.out.size))
          have HO2 := hide (HO.out.call bb)
          clear bb HX HB HO hc0 hc1 hc2 hc3 hc4 hc5 x0 x1
          have HX := hide HX2.out
          have HB := hide HB2.out
          have HO := hide HO2.out
          clear HX2 HB2 HO2
          generalize secSize p.d = q at *
          by_cases h1 : q = 0
          · have e1 : (q == 0) = true := beq_iff_eq.2 h1
            rw [if_pos h1] at HA
            clear h1
            go_wp2_with (at_builtin; refine wpList_app (w2.alloc (.cells #[.int .i64 2, .int .i64 k] 31)) rfl (.tmp 55) (.tmp 58) 28 rfl 31 i0 (.agg #[.int .i64 0, .int .i64 0]) 2 16 Try.underlying28 HI.out.1 HI.out.2.1 HI.out.2.2.1 HI.out.2.2.2 rfl (by decide) w.heap.size A1 L.length c1 (cellsOf CWarnings.warningC L) rfl (HO.out.alloc _) ?hb (some ⟨w2.heap.size, 0, none⟩) 1 1 [.int .i64 2, .int .i64 k] rfl (rd_lit w2 #[.int .i64 2, .int .i64 k] 31 _ rfl) rfl (fun h => by cases h) ?o1 ?n1 ?n2 ?_)
            case hb => exact (HB.out.alloc HB.out.size _).size
            case o1 => intro u hu; simp only [List.mem_cons, List.not_mem_nil, or_false] at hu; rcases hu with rfl | rfl <;> rfl
            case n1 => unfold maxLen; omega
            case n2 => omega
            intro A3 n3 c3 w3 hn3 o3 g3 k3
            subst hn3
            have HB3 := hide (show Below w.heap.size w w3 from (HB.out.alloc HB.out.size _).grown g3 (HB.out.alloc HB.out.size _).size (fun j hj => (HO.out.lt j hj).1))
            have HX3 := hide ((HX.out.alloc (.cells #[.int .i64 2, .int .i64 k] 31)).grown g3 (fun j hj => (HO.out.alloc (.cells #[.int .i64 2, .int .i64 k] 31)).box (HX.out.alloc _) (by decide) j hj))
            have HO3 := hide (show Row w3 w.heap.size 31 2 A3 (L ++ [((2 : Int), (k : Int))]).length c3 (cellsOf CWarnings.warningC (L ++ [((2 : Int), (k : Int))])) by rw [List.length_append]; simpa [cellsOf, CWarnings.warningC] using o3)
            clear o3 g3 k3 HO HB HX
            go_wp2_with fail
            refine ⟨⟨k + 1, A3, c3, L ++ [(2, (k : Int))], by omega, by go_num, by simp, by rw [HU.out, HA.out], HO3.out, HX3.out, HB3.out⟩, by simp [intOf]; omega⟩
          · have e1 : (q == 0) = false := beq_eq_false_iff_ne.2 h1
            rw [if_neg h1] at HA
            clear h1
            go_wp2_with fail
            refine ⟨⟨k + 1, A1, c1, L, by omega, by go_num, rfl, by rw [HU.out, HA.out, List.append_nil], HO.out, HX.out, HB.out⟩, by simp [intOf]; omega⟩
        · have e : k = ps.length := by omega
          subst e
          clear ho hx hb
          go_wp2_with fail
          clear x0 x1
          have HP2 := hide (show L = upto (at1 ⟨ps.map SV.d, ys⟩) ys.length ++ upto (at2 ⟨ps.map SV.d, ys⟩) ps.length by rw [HLE.out, HP.out])
          have hPl2 : L.length ≤ 20 := by have := HL2.out ps.length; rw [HLE.out, List.length_append]; omega
          clear HLE hLl HP hPl hLe
          generalize hP : L = P2 at *
          clear hP
          go_loopw [3, 6] (fun sl i wi => ∃ (k : Nat) (A1 : Option Addr) (c1 : Nat) (L : List WD), k ≤ ps.length ∧ i = .int .i64 k ∧ sl = .slice A1 L.length c1 ∧ L = P2 ++ upto (at3 ⟨ps.map SV.d, ys⟩) k ∧ Row wi w.heap.size 31 2 A1 L.length c1 (cellsOf CWarnings.warningC L) ∧ Box wi w.heap.size 26 #[.slice A ps.length c, .slice Y ys.length yc] ∧ Below w.heap.size w wi) (fun _ i _ => ps.length - (intOf i).toNat)
          case atStart => exact ⟨0, A1, c1, P2, Nat.zero_le _, rfl, rfl, by simp [upto], HO.out, HX.out, HB.out⟩
          case round =>
            clear HO
            clear HX HB
            obtain ⟨k, A1, c1, L, hk, rfl, rfl, hLe, ho, hx, hb⟩ := hrel
            have hLl : L.length ≤ 28 := by have := HL3.out k; rw [hLe, List.length_append]; omega
            have HLE := hide hLe
            have HO := hide ho
            have HX := hide hx
            have HB := hide hb
            have x0 := hx.cell 0
            have x1 := hx.cell 1
            simp only [List.getElem?_toArray, List.getElem?_cons_zero, List.getElem?_cons_succ] at x0 x1
            have hxl := hx.lt
            by_cases hlt : k < ps.length
            · have HA := hide (show at3 ⟨ps.map SV.d, ys⟩ k = if coverB ps[k].d = true then [((3 : Int), (k : Int))] else [] by unfold at3; rw [getS hlt])
              have HU := hide (show P2 ++ upto (at3 ⟨ps.map SV.d, ys⟩) (k + 1) = L ++ at3 ⟨ps.map SV.d, ys⟩ k by rw [upto_succ, hLe, List.append_assoc])
              have HM := hide (HL.out.1 _ (List.getElem_mem hlt))
              have HRS := hide (HR.out.1.2 _ (List.getElem_mem hlt))
              have HINP := hide (HIN.out _ (List.getElem_mem hlt))
              obtain ⟨b, off, hA, hbg, hc⟩ := (HR.out.1.1.below hb).row secC_len (by decide) hlt
              have HROW := hide (show ∀ V : World, Below w.heap.size w V → V.cell? ⟨b, off + k * 6 + 3, none⟩ = some (.slice ps[k].A ps[k].zs.length ps[k].c) ∧ V.cell? ⟨b, off + k * 6 + 5, none⟩ = some (.slice ps[k].F ps[k].fs.length ps[k].fc) from fun V hV => by
                obtain ⟨b', off', hA', _, hc'⟩ := (HR.out.1.1.below hV).row secC_len (by decide) hlt
                rw [hA] at hA'
                simp only [Option.some.injEq, Addr.mk.injEq, and_true] at hA'
                obtain ⟨rfl, rfl⟩ := hA'
                exact ⟨hc' 3 _ rfl, hc' 5 _ rfl⟩)
              clear hLe ho hx hb hc
              subst hA
              generalize ps[k] = p at *
              have hpz := HM.out.2.1
              have hpf := HM.out.2.2
              go_wp2_with fail
              clear x0 x1
              go_loopw [7, 8] (fun cv jj wi => ∃ j : Nat, j ≤ p.fs.length ∧ jj = .int .i64 j ∧ cv = .bool ((p.fs.take j).any (coverF p.zs)) ∧ Row wi w.heap.size 31 2 A1 L.length c1 (cellsOf CWarnings.warningC L) ∧ Box wi w.heap.size 26 #[.slice (some ⟨b, off, none⟩) ps.length c, .slice Y ys.length yc] ∧ Below w.heap.size w wi) (fun _ jj _ => p.fs.length - (intOf jj).toNat)
              case atStart => exact ⟨0, Nat.zero_le _, rfl, rfl, HO.out, HX.out, HB.out⟩
              case round =>
                clear HO HX HB hxl
                obtain ⟨j, hj, rfl, rfl, ho, hx, hb⟩ := hrel
                have HO := hide ho
                have HX := hide hx
                have HB := hide hb
                have x0 := hx.cell 0
                have x1 := hx.cell 1
                simp only [List.getElem?_toArray, List.getElem?_cons_zero, List.getElem?_cons_succ] at x0 x1
                have hxl := hx.lt
                obtain ⟨hs3, hs5⟩ := HROW.out wr hb
                by_cases hjl : j < p.fs.length
                · obtain ⟨bF, oF, hF, hbF, hcf⟩ := (HRS.out.2.below hb).row fixupC_len (by decide) hjl
                  have hf0 := hcf 0 _ rfl
                  have hf1 := hcf 1 _ rfl
                  have hf2 := hcf 2 _ rfl
                  have hf3 := hcf 3 _ rfl
                  simp only [Nat.add_zero] at hf0
                  have HT := hide (show (p.fs.take (j + 1)).any (coverF p.zs) = ((p.fs.take j).any (coverF p.zs) || coverF p.zs p.fs[j]) by rw [take_succ hjl, List.any_append]; simp)
                  have hif := HINP.out _ (List.getElem_mem hjl)
                  rw [hF] at hs5
                  clear ho hx hb hcf
                  generalize p.fs[j] = f at *
                  generalize (p.fs.take j).any (coverF p.zs) = c0 at *
                  obtain ⟨f0, f1, f2, f3⟩ := f
                  simp only at hf0 hf1 hf2 hf3 hif
                  obtain ⟨a, rfl⟩ := Int.eq_ofNat_of_zero_le hif.1
                  go_wp2_with fail
                  have HX1 := hide (HX.out.alloc (.cells #[.int .i64 a, .int .i64 f1, .int .i64 f2, .int .i64 f3] 77))
                  have HB1 := hide (HB.out.alloc HB.out.size (.cells #[.int .i64 a, .int .i64 f1, .int .i64 f2, .int .i64 f3] 77))
                  have HO1 := hide (HO.out.alloc (.cells #[.int .i64 a, .int .i64 f1, .int .i64 f2, .int .i64 f3] 77))
                  have HZ1 := hide (Box.new wr 77 #[.int .i64 a, .int .i64 f1, .int .i64 f2, .int .i64 f3])
                  clear HX HB HO hf0 hf1 hf2 hf3 hs3 hs5 x0 x1
                  generalize wr.alloc (.cells #[.int .i64 a, .int .i64 f1, .int .i64 f2, .int .i64 f3] 77) = w1' at *
                  generalize wr.heap.size = Z at *
                  have hwd := wide_bd f1
                  obtain ⟨wd, hwd'⟩ := Int.eq_ofNat_of_zero_le hwd.1
                  have hsum : a + wd ≤ p.zs.length := by have := hif.2; omega
                  have hwl : wd ≤ 4 := by omega
                  have HFW := hide (fun V => fixupWideS_any f1 V)
                  rw [hwd'] at HFW
                  have HFL := hide (show coverF p.zs ((a : Int), f1, f2, f3) = ((p.zs.drop a).take wd).any (fun x => x != 0) by unfold coverF fills; simp only [hwd', Int.toNat_natCast])
                  clear hwd hwd' hif
                  go_loopw [7, 10] (fun cv ii wi => ∃ i : Nat, i ≤ wd ∧ ii = .int .i64 i ∧ cv = .bool (c0 || ((p.zs.drop a).take i).any (fun x => x != 0)) ∧ Box wi Z 77 #[.int .i64 a, .int .i64 f1, .int .i64 f2, .int .i64 f3] ∧ Row wi w.heap.size 31 2 A1 L.length c1 (cellsOf CWarnings.warningC L) ∧ Box wi w.heap.size 26 #[.slice (some ⟨b, off, none⟩) ps.length c, .slice Y ys.length yc] ∧ Below w.heap.size w wi) (fun _ ii _ => wd - (intOf ii).toNat)
                  case atStart => exact ⟨0, Nat.zero_le _, rfl, by simp, HZ1.out, HO1.out, HX1.out, HB1.out⟩
                  case round =>
                    clear HO1 HX1 HB1 HZ1 hxl
                    obtain ⟨i, hi', rfl, rfl, hz, ho, hx, hb⟩ := hrel
                    have HZ := hide hz
                    have HO := hide ho
                    have HX := hide hx
                    have HB := hide hb
                    have z1 := hz.cell 1
                    simp only [List.getElem?_toArray, List.getElem?_cons_zero, List.getElem?_cons_succ] at z1
                    clear hz ho hx hb
                    have HI2 := hide (fun (hil : i < wd) => (show (c0 || ((p.zs.drop a).take (i + 1)).any (fun x => x != 0)) = ((c0 || ((p.zs.drop a).take i).any (fun x => x != 0)) || (p.zs[a + i]'(by omega) != 0)) by
                      have hdl : i < (p.zs.drop a).length := by rw [List.length_drop]; omega
                      have hge : (p.zs.drop a)[i] = p.zs[a + i]'(by omega) := List.getElem_drop ..
                      rw [take_succ hdl, List.any_append, hge]
                      simp [Bool.or_assoc]))
                    have HQ := hide (show (c0 || ((p.zs.drop a).take i).any (fun x => x != 0)) = (c0 || ((p.zs.drop a).take i).any (fun x => x != 0)) from rfl)
                    generalize hcc : (c0 || ((p.zs.drop a).take i).any (fun x => x != 0)) = cc at *
                    have HCC := hide hcc
                    clear hcc HQ
                    go_wp2_with fail
                    refine (HFW.out wr).mono ?_
                    rintro e w3 ⟨rfl, bb⟩
                    have hzb := HZ.out.call bb
                    have HZ3 := hide hzb
                    have hxb := HX.out.call bb
                    have HX3 := hide hxb
                    have HB3 := hide (HB.out.trans (bb.mono HB.out.size))
                    have HO3 := hide (HO.out.call bb)
                    clear z1 bb HZ HX HB HO
                    have z0 := hzb.cell 0
                    have x0 := hxb.cell 0
                    have hxl := hxb.lt
                    simp only [List.getElem?_toArray, List.getElem?_cons_zero, List.getElem?_cons_succ] at z0 x0
                    clear hzb hxb
                    obtain ⟨hs3, hs5⟩ := HROW.out w3 HB3.out
                    clear hs5
                    by_cases hil : i < wd
                    · have hai : a + i < p.zs.length := by omega
                      obtain ⟨bA, oA, hA, hbA, hcz⟩ := (HRS.out.1.below HB3.out).int hai
                      rw [hA] at hs3
                      have HN := hide (HI2.out hil)
                      have hw1 : IntKind.i64.wrap ((a : Int) + i) = (a : Int) + i := IntWalk.i64_in _ (by omega)
                      have ht1 : ((a : Int) + (i : Int)).toNat = a + i := by omega
                      have hb1 : (0 : Int) ≤ (a : Int) + i := by omega
                      have hb2 : (a : Int) + i < p.zs.length := by omega
                      have hbl : bA < w3.heap.size := Nat.lt_of_lt_of_le hbA HB3.out.size
                      have hbo : b < w3.heap.size := World.block_lt_of_cell? _ _ hs3
                      have hzl : Z < w3.heap.size := World.block_lt_of_cell? _ _ z0
                      clear HI2
                      generalize p.zs[a + i]'hai = z at *
                      cases cc
                      · rw [Bool.false_or] at HN
                        go_wp2_with fail
                        go_quiet (fail)
                        go_wp2_with fail
                        refine ⟨⟨i + 1, by omega, by go_num, by rw [HN.out], HZ3.out.drewN _, HO3.out.drewN _, HX3.out.drewN _, Kit.Below.drewN HB3.out _⟩, by simp [intOf]; omega⟩
                      · rw [Bool.true_or] at HN
                        go_wp2_with fail
                        go_quiet (fail)
                        go_wp2_with fail
                        refine ⟨⟨i + 1, by omega, by go_num, by rw [HN.out], HZ3.out.drewN _, HO3.out.drewN _, HX3.out.drewN _, Kit.Below.drewN HB3.out _⟩, by simp [intOf]; omega⟩
                    · have e : i = wd := by omega
                      subst e
                      have HTT := hide (show (p.fs.take (j + 1)).any (coverF p.zs) = cc by rw [HT.out, HFL.out, HCC.out])
                      clear HI2 z0 x0 hs3
                      go_wp2_with fail
                      refine ⟨⟨j + 1, by omega, by go_num, by rw [HTT.out], HO3.out, HX3.out, HB3.out⟩, by simp [intOf]; omega⟩
                · have HCB := hide (show (p.fs.take j).any (coverF p.zs) = coverB p.d by rw [List.take_of_length_le (by omega)]; rfl)
                  rw [HCB.out]
                  clear ho hx hb HCB
                  cases h1 : coverB p.d
                  · rw [h1, if_neg (by decide)] at HA
                    clear h1
                    go_wp2_with fail
                    refine ⟨⟨k + 1, A1, c1, L, by omega, by go_num, rfl, by rw [HU.out, HA.out, List.append_nil], HO.out, HX.out, HB.out⟩, by simp [intOf]; omega⟩
                  · rw [h1, if_pos rfl] at HA
                    clear h1
                    go_wp2_with (at_builtin; refine wpList_app (wr.alloc (.cells #[.int .i64 3, .int .i64 k] 31)) rfl (.tmp 111) (.tmp 114) 28 rfl 31 i0 (.agg #[.int .i64 0, .int .i64 0]) 2 16 Try.underlying28 HI.out.1 HI.out.2.1 HI.out.2.2.1 HI.out.2.2.2 rfl (by decide) w.heap.size A1 L.length c1 (cellsOf CWarnings.warningC L) rfl (HO.out.alloc _) ?hb (some ⟨wr.heap.size, 0, none⟩) 1 1 [.int .i64 3, .int .i64 k] rfl (rd_lit wr #[.int .i64 3, .int .i64 k] 31 _ rfl) rfl (fun h => by cases h) ?o1 ?n1 ?n2 ?_)
                    case hb => exact (HB.out.alloc HB.out.size _).size
                    case o1 => intro u hu; simp only [List.mem_cons, List.not_mem_nil, or_false] at hu; rcases hu with rfl | rfl <;> rfl
                    case n1 => unfold maxLen; omega
                    case n2 => omega
                    intro A3 n3 c3 w3 hn3 o3 g3 k3
                    subst hn3
                    have HB3 := hide (show Below w.heap.size w w3 from (HB.out.alloc HB.out.size _).grown g3 (HB.out.alloc HB.out.size _).size (fun j hj => (HO.out.lt j hj).1))
                    have HX3 := hide ((HX.out.alloc (.cells #[.int .i64 3, .int .i64 k] 31)).grown g3 (fun j hj => (HO.out.alloc (.cells #[.int .i64 3, .int .i64 k] 31)).box (HX.out.alloc _) (by decide) j hj))
                    have HO3 := hide (show Row w3 w.heap.size 31 2 A3 (L ++ [((3 : Int), (k : Int))]).length c3 (cellsOf CWarnings.warningC (L ++ [((3 : Int), (k : Int))])) by rw [List.length_append]; simpa [cellsOf, CWarnings.warningC] using o3)
                    clear o3 g3 k3 HO HB HX
                    go_wp2_with fail
                    refine ⟨⟨k + 1, A3, c3, L ++ [(3, (k : Int))], by omega, by go_num, by simp, by rw [HU.out, HA.out], HO3.out, HX3.out, HB3.out⟩, by simp [intOf]; omega⟩
            · have e : k = ps.length := by omega
              subst e
              clear ho hx hb
              go_wp2_with fail
              clear x0 x1
              have HV2 := hide (show L = warns (OV.d ⟨A, c, ps, Y, yc, ys⟩) by rw [HLE.out, HP2.out]; refine Eq.trans ?_ HV.out.symm; simp [list, OV.d])
              go_ret
              exact ⟨A1, c1, by rw [← HV2.out]; rfl, by rw [← HV2.out]; exact HO.out, HB.out⟩
end Go.Proofs.Ytmglgjchemecjaa.CWarnS
/- The laws' question whether the program is there at all: it answers true. -/
namespace Go.Proofs.Ytmglgjchemecjaa.CAlive
set_option maxRecDepth 200000
open Go.ChangeShapes Go.WideShapes Go.ChangeAt Go.RowKit Kit CCode
theorem isAlign4 (w : World) : Calls Try.prog 114 #[.int .i64 4] w (Pure (.bool true) w) := by
  go_enter Try.func114, Try.ntmps114
  go_wp2
  go_ret
  exact ⟨rfl, rfl⟩
theorem aligned54 (w : World) : Calls Try.prog 116 #[.int .i64 5, .int .i64 4] w (Pure (.int .i64 8) w) := by
  go_enter Try.func116, Try.ntmps116
  go_wp2
  go_ret
  exact ⟨rfl, rfl⟩
theorem alignUp54 (w : World) : Calls Try.prog 52 #[.int .i64 5, .int .i64 4] w (Pure (.int .i64 8) w) := by
  have hb : inB 5 0 1000000 = true := by decide
  go_enter Try.func52, Try.ntmps52
  go_wp2_with (first | (go_at_call 114; refine (isAlign4 _).mono ?_; rintro e w' ⟨rfl, rfl⟩) | (go_at_call 116; refine (aligned54 _).mono ?_; rintro e w' ⟨rfl, rfl⟩) | (first | (go_at_call 115; refine (within_any _ _ _ _).mono ?_; rintro e w' ⟨rfl, rfl⟩) | (go_at_call 110; refine (l1In_any _ _ _ _).mono ?_; rintro e w' ⟨rfl, rfl⟩) | fail))
  go_ret
  exact ⟨rfl, rfl⟩
theorem alive_any (w : World) : Calls Try.prog 15 #[] w (Pure (.bool true) w) := by
  go_enter Try.func15, Try.ntmps15
  go_wp2_with (go_at_call 52; refine (alignUp54 _).mono ?_; rintro e w' ⟨rfl, rfl⟩)
  go_ret
  exact ⟨rfl, rfl⟩
end Go.Proofs.Ytmglgjchemecjaa.CAlive
/- The walk of FnWarningsOf. -/
namespace Go.Proofs.Ytmglgjchemecjaa.WFnWarningsOf
set_option maxRecDepth 200000
open Go.ChangeShapes Go.WideShapes Go.ChangeAt Go.RowKit Kit CCode CFixups CSymbols PObj BObj PValid CObjValid PWarn PClear CKeep PStrip CStrip CClear CWarn CWarnS DDrawO CCopyS CCopyI CAlive
def Steps (L : List WD) : Prop := ∀ k (h : k + 1 < L.length), L[k].1 < L[k + 1].1 ∨ L[k].1 = L[k + 1].1 ∧ L[k].2 < L[k + 1].2
def Empties (L : List WD) : Prop := ∀ x ∈ L, x.1 = 2
set_option maxHeartbeats 4000000 in
theorem walk (A : Option Addr) (zs : List Int) (c : Nat) (hl : zs.length ≤ c) (hc : c ≤ maxLen) (hz : InR 0 255 zs) (w : World) (hr : Rd w w.heap.size A (ints .u8 zs)) :
    Calls Try.prog 3 #[.slice A zs.length c] w (LawEnds w) := by
  have hcm := hc
  unfold maxLen at hcm
  have HD := hide (draw_DrawWarningsOf hr hz hl hc)
  clear hr hz hc
  by_cases hbig : 1048576 < zs.length
  · go_enter Try.func3, Try.ntmps3
    go_wp2_with fail
    go_ret
    exact ⟨rfl, Below.refl _ _⟩
  go_enter Try.func3, Try.ntmps3
  go_wp2_with fail
  refine HD.out.mono ?_
  rintro e w1 ⟨d, hbd, o, rfl, hd, own1, b1⟩
  subst hd
  have HBD := hide hbd
  have HFT := hide (bnd_fit hbd own1)
  have HNL := hide (nils_own own1)
  have HR := hide (own1.rd)
  have B1 : Below w1.heap.size w1 (w1.alloc (.cells #[.slice o.A o.ps.length o.c, .slice o.Y o.ys.length o.yc] 26)) := (by repeat (first | exact Below.refl _ _ | with_reducible assumption | (refine Below.drew ?_) | (refine Below.drewN ?_ _) | (refine Below.alloc ?_ (by simp; try omega) _) | (refine Below.setCell ?_ (by simp; try omega) _)))
  have HX := hide (Box.new w1 26 #[.slice o.A o.ps.length o.c, .slice o.Y o.ys.length o.yc])
  have HB := hide (b1.trans (B1.mono b1.size))
  have HBW := hide B1
  clear hbd own1 b1 B1 HD
  simp only [OV.v]
  have x0 := HX.out.cell 0
  have x1 := HX.out.cell 1
  simp only [List.getElem?_toArray, List.getElem?_cons_zero, List.getElem?_cons_succ] at x0 x1
  have hxl := HX.out.lt
  go_wp2_with fail
  generalize w1.alloc (.cells #[.slice o.A o.ps.length o.c, .slice o.Y o.ys.length o.yc] 26) = w2 at *
  generalize hX : w1.heap.size = X at *
  have HRW := hide (HR.out.below HBW.out)
  clear HR HBW hX
  refine (warningsOf_any o w2 (HRW.out.more (Nat.le_of_lt hxl)) HFT.out.1 HFT.out.2).mono ?_
  rintro e w3 ⟨Ax, cx, rfl, rx, b3⟩
  have HRX := hide (rx.down (HB.out.size))
  have hx2 : X < w2.heap.size := hxl
  replace HRW := hide (HRW.out.below (b3.mono (Nat.le_of_lt hxl)))
  replace HB := hide (HB.out.trans (b3.mono HB.out.size))
  replace HX := hide (HX.out.call b3)
  clear b3
  clear x0 x1 hxl rx
  have x0 := HX.out.cell 0
  have x1 := HX.out.cell 1
  simp only [List.getElem?_toArray, List.getElem?_cons_zero, List.getElem?_cons_succ] at x0 x1
  have hxl := HX.out.lt
  go_wp2_with fail
  refine (warningsOfS_any o w3 (HRW.out.more (Nat.le_of_lt hxl)) HFT.out.1 HFT.out.2).mono ?_
  rintro e w4 ⟨Ay, cy, rfl, ry, b4⟩
  have HRY := hide (ry.down (HB.out.size))
  replace HRW := hide (HRW.out.below (b4.mono (Nat.le_of_lt hxl)))
  replace HB := hide (HB.out.trans (b4.mono HB.out.size))
  replace HX := hide (HX.out.call b4)
  replace HRX := hide (HRX.out.call b4)
  clear b4
  clear x0 x1 hxl ry hx2
  have hln := warns_len o.d
  have HST := hide (show Steps (warns o.d) from warns_step o.d)
  generalize hLL : warns o.d = L at *
  clear hLL
  have hxl := HX.out.lt
  go_wp2_with fail
  go_loopw [6] (fun i wi => ∃ (k : Nat), k ≤ L.length ∧ i = .int .i64 k ∧ Below w4.heap.size w4 wi) (fun i _ => L.length - (intOf i).toNat)
  case atStart => exact ⟨0, Nat.zero_le _, rfl, Below.refl _ _⟩
  case round =>
    obtain ⟨k, hk, rfl, hb⟩ := hrel
    by_cases hlt : k < L.length
    · obtain ⟨bx, ox, hAx, hbx, hcx⟩ := (HRX.out.call hb).rd.row CWarnings.warningC_len (by decide) hlt
      obtain ⟨by_, oy, hAy, hby, hcy⟩ := (HRY.out.call hb).rd.row CWarnings.warningC_len (by decide) hlt
      have hx0 := hcx 0 _ rfl
      have hx1 := hcx 1 _ rfl
      have hy0 := hcy 0 _ rfl
      have hy1 := hcy 1 _ rfl
      simp only [Nat.add_zero] at hx0 hy0
      clear hcx hcy
      by_cases h0 : k = 0
      · subst h0
        have HBI := hide hb
        clear hb
        simp only [Nat.zero_mul, Nat.add_zero, Nat.zero_add] at hx0 hx1 hy0 hy1
        generalize L[0] = p at *
        have hd : decide ((0 : Int) < 0) = false := rfl
        rw [hAx, hAy]
        clear hAx hAy
        go_wp2_with fail
        go_quiet (fail)
        go_wp2_with fail
        refine ⟨⟨1, by omega, by go_num, Kit.Below.drewN HBI.out _⟩, by first | (simp [intOf]; done) | (simp [intOf]; omega)⟩
      · obtain ⟨j, hj⟩ : ∃ j, k = j + 1 := ⟨k - 1, by omega⟩
        have hlj : j < L.length := by omega
        obtain ⟨bx', ox', hAx', _, hcx'⟩ := (HRX.out.call hb).rd.row CWarnings.warningC_len (by decide) hlj
        rw [hAx] at hAx'
        simp only [Option.some.injEq, Addr.mk.injEq, and_true] at hAx'
        obtain ⟨rfl, rfl⟩ := hAx'
        have hw0 := hcx' 0 _ rfl
        have hw1 := hcx' 1 _ rfl
        simp only [Nat.add_zero] at hw0
        clear hcx'
        have hst : L[j].1 < L[k].1 ∨ L[j].1 = L[k].1 ∧ L[j].2 < L[k].2 := by subst hj; exact HST.out j hlt
        have HBI := hide hb
        clear hb
        generalize L[k] = p at *
        generalize L[j] = q at *
        have hd0 : decide (0 < k) = true := decide_eq_true (by omega)
        have hd1 : decide (p.1 < q.1) = false := decide_eq_false (by omega)
        have hq1 : (1 : Int) ≤ k := by omega
        have hq2 : ((k : Int) - 1).toNat = j := by omega
        have hq3 : (k : Int) - 1 < L.length := by omega
        have hq4 : (0 : Int) ≤ (k : Int) - 1 := by omega
        rw [hAx, hAy]
        clear hAx hAy
        have HJ := hide hj
        clear hj
        by_cases he : p.1 = q.1
        · have hd2 : decide (p.2 ≤ q.2) = false := decide_eq_false (by omega)
          have HST9 := hide hst
          clear hst
          obtain ⟨p1, p2⟩ := p
          obtain ⟨q1, q2⟩ := q
          simp only at he hd1 hd2 hx0 hx1 hy0 hy1 hw0 hw1
          subst he
          go_wp2_with fail
          go_quiet (fail)
          go_wp2_with fail
          refine ⟨⟨k + 1, by omega, by go_num, Kit.Below.drewN HBI.out _⟩, by first | (simp [intOf]; done) | (simp [intOf]; omega)⟩
        · have hd2 : (p.1 == q.1) = false := beq_eq_false_iff_ne.2 he
          have HST9 := hide hst
          clear hst he
          have hwr : IntKind.i64.wrap ((k : Int) - 1) = (j : Int) := by rw [IntKind.wrap_i64]; omega
          obtain ⟨p1, p2⟩ := p
          obtain ⟨q1, q2⟩ := q
          simp only at hd1 hd2 hx0 hx1 hy0 hy1 hw0 hw1
          go_wp2_with fail
          go_quiet (fail)
          go_wp2_with fail
          refine ⟨⟨k + 1, by omega, by go_num, Kit.Below.drewN HBI.out _⟩, by first | (simp [intOf]; done) | (simp [intOf]; omega)⟩
    · obtain rfl : k = L.length := by omega
      have HBI := hide hb
      have HB5 := hide (HB.out.trans (hb.mono HB.out.size))
      have HR5 := hide (HRW.out.below (hb.mono (Nat.le_of_lt hxl)))
      have HX5 := hide (HX.out.call hb)
      have x0 := HX5.out.cell 0
      have x1 := HX5.out.cell 1
      simp only [List.getElem?_toArray, List.getElem?_cons_zero, List.getElem?_cons_succ] at x0 x1
      have hxl5 := HX5.out.lt
      clear hb HX HB HRW
      go_wp2_with fail
      refine (stripWanted_any o wr (HR5.out.more (Nat.le_of_lt hxl5)) HFT.out.1 HNL.out).mono ?_
      rintro e v1 ⟨o1, rfl, hd1, own1, b1⟩
      have HF1 := hide (bnd_fit (by rw [hd1]; exact bnd_strip HBD.out) own1)
      have HN1 := hide (nils_own own1)
      have HR1 := hide own1.rd
      have HBD1 := hide (show Bnd o1.d by rw [hd1]; exact bnd_strip HBD.out)
      have HD1 := hide hd1
      replace HB5 := hide (HB5.out.trans (b1.mono HB5.out.size))
      clear b1
      clear hd1 own1 x0 x1 hxl5
      simp only [OV.v]
      go_wp2_with fail
      refine (clearFixups_any o1 v1 HR1.out HF1.out.1 HN1.out).mono ?_
      rintro e v2 ⟨o2, rfl, hd2, own2, b2⟩
      have HF2 := hide (bnd_fit (by rw [hd2]; exact bnd_clear HBD1.out) own2)
      have HR2 := hide own2.rd
      have HE := hide (show Empties (warns o2.d) by rw [hd2, HD1.out]; exact kinds_left o.d)
      replace HB5 := hide (HB5.out.trans (b2.mono HB5.out.size))
      clear b2
      clear hd2 own2
      simp only [OV.v]
      go_wp2_with fail
      refine (warningsOf_any o2 v2 HR2.out HF2.out.1 HF2.out.2).mono ?_
      rintro e v3 ⟨Az, cz, rfl, rz, b3⟩
      have HRZ := hide rz
      have hzl := warns_len o2.d
      replace HB5 := hide (HB5.out.trans (b3.mono HB5.out.size))
      clear b3
      clear rz
      generalize warns o2.d = Z at *
      go_wp2_with fail
      go_loopw [8] (fun i wi => ∃ (k : Nat), k ≤ Z.length ∧ i = .int .i64 k ∧ Below v3.heap.size v3 wi) (fun i _ => Z.length - (intOf i).toNat)
      case atStart => exact ⟨0, Nat.zero_le _, rfl, Below.refl _ _⟩
      case round =>
        clear hk hlt
        obtain ⟨k, hk, rfl, hb⟩ := hrel
        by_cases hlt : k < Z.length
        · obtain ⟨bz, oz, hAz, hbz, hcz⟩ := (HRZ.out.call hb).rd.row CWarnings.warningC_len (by decide) hlt
          have hz0 := hcz 0 _ rfl
          rw [HE.out _ (List.getElem_mem hlt)] at hz0
          simp only [Nat.add_zero] at hz0
          have HBI := hide hb
          clear hb hcz
          rw [hAz]
          clear hAz
          go_wp2_with fail
          refine ⟨⟨k + 1, by omega, by go_num, HBI.out⟩, by first | (simp [intOf]; done) | (simp [intOf]; omega)⟩
        · have HBI := hide (HB5.out.trans (hb.mono HB5.out.size))
          clear hb
          go_wp2_with fail
          refine (alive_any _).mono ?_
          rintro e w' ⟨rfl, rfl⟩
          go_wp2_with fail
          go_ret
          exact ⟨rfl, HBI.out⟩
end Go.Proofs.Ytmglgjchemecjaa.WFnWarningsOf
