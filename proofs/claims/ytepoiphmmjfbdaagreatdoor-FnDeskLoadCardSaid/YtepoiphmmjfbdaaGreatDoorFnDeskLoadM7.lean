/- JoinAll and copyObjects; the program's. -/
import Derived.Test.YtepoiphmmjfbdaaGreatDoorFnDeskLoadM6
import Derived.Lib.AppendZerosOnto
import Derived.BigQuiet
set_option linter.unusedSimpArgs false
set_option linter.unusedVariables false
namespace Go.Proofs.YtepoiphmmjfbdaaGreatDoor.CJoinAI
set_option maxRecDepth 200000
open Go.ChangeShapes Go.WideShapes Go.ChangeAt Go.RowKit Kit CCode CName CFixups CSymbols PObj BObj PValid PClear PLink PLinkL BList CMarkRows BObj2 BRetO BStore BJoin PJoin PJoin2 CObjValid CCopyS CCopyI CValids CJoinI CObjL COwnL
theorem joinAll_bad {l : List OD} (h : objsOk l = false) : joinAll l = none := by
  cases l with
  | nil => rfl
  | cons d ds => rw [joinAll, if_neg (by rw [h]; decide)]
theorem joinAll_ok' {l : List OD} (h : objsOk l = true) (hl : 0 < l.length) : joinAll l = joins (l[0]'hl) (l.drop 1) := by
  cases l with
  | nil => cases hl
  | cons d ds => rw [joinAll, if_pos h]; rfl
theorem joins_drop {l : List OD} {k : Nat} (h : k < l.length) (d : OD) : joins d (l.drop k) = (joinD d l[k]).bind fun x => joins x (l.drop (k + 1)) := by
  rw [List.drop_eq_getElem_cons h]
  rfl
theorem objs_all {os : List OV} (h : objsOk (os.map OV.d) = true) : os.length ≤ 4 ∧ ∀ o ∈ os, objOk o.d = true := by
  simp only [objsOk, Bool.and_eq_true, decide_eq_true_eq, List.all_eq_true, List.length_map] at h
  exact ⟨h.1, fun o ho => h.2 _ (List.mem_map_of_mem ho)⟩
theorem valid_len {o : OV} (h : objOk o.d = true) : o.ps.length ≤ 8 ∧ o.ys.length ≤ 12 := by
  obtain ⟨h1, h2, _⟩ := obj_all h
  exact ⟨by simpa [OV.d] using h1, h2⟩
set_option maxHeartbeats 16000000 in
theorem joinAll_any (A : Option Addr) (os : List OV) (c : Nat) (w : World) (hr : RdOs w w.heap.size A os) (hf : Fits os) (hn : ∀ o ∈ os, Nils o) (hc : os.length ≤ c) :
    Calls Tryz.prog 46 #[.slice A os.length c] w (RetOB (joinAll (os.map OV.d)) w) := by
  have HR := hide hr
  have HF := hide hf
  have HN := hide hn
  clear hr hf hn
  have HB := hide (show Below w.heap.size w (w.alloc (.cells #[.slice none 0 0, .slice none 0 0] 26)) from (by repeat (first | exact Below.refl _ _ | with_reducible assumption | (refine Below.drew ?_) | (refine Below.drewN ?_ _) | (refine Below.alloc ?_ (by simp; try omega) _) | (refine Below.setCell ?_ (by simp; try omega) _))))
  have HRR := hide (Box.new w 26 #[.slice none 0 0, .slice none 0 0])
  go_enter Tryz.func46, Tryz.ntmps46
  go_wp2_with fail
  generalize w.alloc (.cells #[.slice none 0 0, .slice none 0 0] 26) = w0 at *
  refine (objectsValid_any A os c w0 ((HR.out.below HB.out).more HB.out.size) HF.out).mono ?_
  rintro e w1 ⟨rfl, b1⟩
  replace HB := hide (HB.out.trans (b1.mono HB.out.size))
  replace HRR := hide (HRR.out.call b1)
  clear b1
  cases hok : objsOk (os.map OV.d)
  · have HV := hide (joinAll_bad hok)
    clear hok
    have y0 := HRR.out.cell 0
    have y1 := HRR.out.cell 1
    simp only [List.getElem?_toArray, List.getElem?_cons_zero, List.getElem?_cons_succ] at y0 y1
    have yf0 := HRR.out.frozen 0
    have yf1 := HRR.out.frozen 1
    have hrl := HRR.out.lt
    obtain ⟨k0, k1⟩ := cells2 (u := .slice none 0 0) (v := .slice none 0 0) HRR.out
    have HFB := hide (below2 HB.out (Nat.le_refl _) (.slice none 0 0) (.slice none 0 0))
    go_wp2_with fail
    (try simp only [Exit.inBlock, Exit.then])
    exact bodyPost_ret (v := .tuple #[.agg #[.slice none 0 0, .slice none 0 0], .bool false]) (by simp [results, Tryz.results46, go_sem, k0, k1]) rfl (by rw [HV.out]; exact ret_nilO HFB.out)
  obtain ⟨h4, hall⟩ := objs_all hok
  have HAL := hide hall
  have HOK := hide hok
  clear hok hall
  by_cases h0 : os.length = 0
  · have HV := hide (show joinAll (os.map OV.d) = none from by rw [List.eq_nil_of_length_eq_zero h0]; rfl)
    have hq : ((os.length : Int) == 0) = true := by rw [h0]; rfl
    clear h0
    have y0 := HRR.out.cell 0
    have y1 := HRR.out.cell 1
    simp only [List.getElem?_toArray, List.getElem?_cons_zero, List.getElem?_cons_succ] at y0 y1
    have yf0 := HRR.out.frozen 0
    have yf1 := HRR.out.frozen 1
    have hrl := HRR.out.lt
    obtain ⟨k0, k1⟩ := cells2 (u := .slice none 0 0) (v := .slice none 0 0) HRR.out
    have HFB := hide (below2 HB.out (Nat.le_refl _) (.slice none 0 0) (.slice none 0 0))
    go_wp2_with fail
    (try simp only [Exit.inBlock, Exit.then])
    exact bodyPost_ret (v := .tuple #[.agg #[.slice none 0 0, .slice none 0 0], .bool false]) (by simp [results, Tryz.results46, go_sem, k0, k1]) rfl (by rw [HV.out]; exact ret_nilO HFB.out)
  have hq : ((os.length : Int) == 0) = false := beq_eq_false_iff_ne.2 (by omega)
  have hp : 0 < os.length := by omega
  clear h0
  obtain ⟨b, off, rfl, hbb, hcc⟩ := (HR.out.1.below HB.out).row objC_len (by decide) hp
  have hc0 := hcc 0 _ rfl
  have hc1 := hcc 1 _ rfl
  simp only [Nat.zero_mul, Nat.add_zero] at hc0 hc1
  have HV := hide (show joinAll (os.map OV.d) = joins (os[0]).d ((os.map OV.d).drop 1) from by
    rw [joinAll_ok' HOK.out (by simpa using hp)]
    simp)
  have HM := hide (List.getElem_mem hp)
  have HRO := hide (((HR.out.2 _ HM.out).below HB.out).more HB.out.size)
  have HFO := hide (HF.out.o _ HM.out)
  have HNO := hide (HN.out _ HM.out)
  have HKO := hide (HAL.out _ HM.out)
  have hle := valid_len HKO.out
  clear hcc HM
  generalize os[0] = o at *
  obtain ⟨hle1, hle2⟩ := hle
  go_wp2_with fail
  clear hc0 hc1 hq
  refine (copyObject_any o w1 HRO.out HFO.out HNO.out ⟨by omega, by omega⟩).mono ?_
  rintro e w2 ⟨q, rfl, hqd, o2, b2⟩
  have HQK := hide (show objOk q.d = true from by rw [hqd]; exact HKO.out)
  rw [← hqd] at HV
  have HO := hide (o2.down HB.out.size)
  replace HB := hide (HB.out.trans (b2.mono HB.out.size))
  replace HRR := hide (HRR.out.call b2)
  clear b2
  clear hqd o2 HRO HFO HNO HKO hle1 hle2
  have BA : Below w2.heap.size w2 (w2.alloc (.cells #[.slice q.A q.ps.length q.c, .slice q.Y q.ys.length q.yc] 26)) := (by repeat (first | exact Below.refl _ _ | with_reducible assumption | (refine Below.drew ?_) | (refine Below.drewN ?_ _) | (refine Below.alloc ?_ (by simp; try omega) _) | (refine Below.setCell ?_ (by simp; try omega) _)))
  have HX := hide (Box.new w2 26 #[.slice q.A q.ps.length q.c, .slice q.Y q.ys.length q.yc])
  have HRw := hide HRR.out.lt
  replace HB := hide (HB.out.trans (BA.mono HB.out.size))
  replace HRR := hide (HRR.out.call BA)
  replace HO := hide (HO.out.call BA)
  clear BA
  simp only [OV.v]
  by_cases hc1 : c = 1
  · have hl1 : os.length = 1 := by omega
    have hz : os.length - 1 = 0 := by omega
    have HV1 := hide (show joinAll (os.map OV.d) = some q.d from by
      rw [HV.out, List.drop_of_length_le (by rw [List.length_map]; omega)]
      rfl)
    have hq1 := eq_true hc1
    clear hc1 hl1 HV
    go_wp2_with fail
    generalize w2.alloc (.cells #[.slice q.A q.ps.length q.c, .slice q.Y q.ys.length q.yc] 26) = w3 at *
    generalize w2.heap.size = O at *
    go_loopw [25] (fun i wi => i = .int .i64 0 ∧ wi = w3) (fun _ _ => 0)
    case atStart => exact ⟨rfl, rfl⟩
    case round =>
      obtain ⟨rfl, rfl⟩ := hrel
      have x0 := HX.out.cell 0
      have x1 := HX.out.cell 1
      simp only [List.getElem?_toArray, List.getElem?_cons_zero, List.getElem?_cons_succ] at x0 x1
      have hxl := HX.out.lt
      have y0 := HRR.out.cell 0
      have y1 := HRR.out.cell 1
      simp only [List.getElem?_toArray, List.getElem?_cons_zero, List.getElem?_cons_succ] at y0 y1
      have yf0 := HRR.out.frozen 0
      have yf1 := HRR.out.frozen 1
      have hrl := HRR.out.lt
      obtain ⟨k0, k1⟩ := cells2 (u := .slice q.A q.ps.length q.c) (v := .slice q.Y q.ys.length q.yc) HRR.out
      have HFIN := hide (ret_ok (R := w.heap.size) HO.out HB.out (HO.out.ne_box HRR.out (by decide) (by decide) (by decide) (by decide)) (Nat.le_refl _))
      go_wp2_with fail
      (try simp only [Exit.inBlock, Exit.then])
      exact bodyPost_ret (v := .tuple #[.agg #[.slice q.A q.ps.length q.c, .slice q.Y q.ys.length q.yc], .bool true]) (by simp [results, Tryz.results46, go_sem, k0, k1]) rfl (by rw [HV1.out]; exact HFIN.out)
  have hq1 := eq_false hc1
  clear hc1
  go_wp2_with fail
  clear hq1
  generalize w2.alloc (.cells #[.slice q.A q.ps.length q.c, .slice q.Y q.ys.length q.yc] 26) = w3 at *
  generalize w2.heap.size = O at *
  go_loopw [25] (fun i wi => ∃ (k : Nat) (o : OV), k + 1 ≤ os.length ∧ i = .int .i64 k ∧ joinAll (os.map OV.d) = joins o.d ((os.map OV.d).drop (k + 1)) ∧ objOk o.d = true ∧ OwnO wi w.heap.size o ∧ Box wi O 26 #[.slice o.A o.ps.length o.c, .slice o.Y o.ys.length o.yc] ∧ Box wi w.heap.size 26 #[.slice none 0 0, .slice none 0 0] ∧ Below w.heap.size w wi) (fun i _ => os.length - (intOf i).toNat)
  case atStart => exact ⟨0, q, hp, rfl, HV.out, HQK.out, HO.out, HX.out, HRR.out, HB.out⟩
  case round =>
    clear HV HQK HO HX HRR HB
    obtain ⟨k, o, hk, rfl, hv, hok, ho, hx, hrr, hb⟩ := hrel
    have HV := hide hv
    have HOK2 := hide hok
    have HO := hide ho
    have HX := hide hx
    have HRR := hide hrr
    have HB := hide hb
    clear hv hok ho hx hrr hb
    by_cases hlt : k + 1 < os.length
    · obtain ⟨b', off', hA, hbb', hcc⟩ := (HR.out.1.below HB.out).row objC_len (by decide) hlt
      injection hA with hA
      injection hA with hA1 hA2
      subst hA1
      subst hA2
      have hc0 := hcc 0 _ rfl
      have hc1 := hcc 1 _ rfl
      rw [Nat.add_zero, show off + (k + 1) * 2 = off + 2 + k * 2 from by omega] at hc0
      rw [show off + (k + 1) * 2 + 1 = off + 2 + k * 2 + 1 from by omega] at hc1
      have hkl : (k : Int) < (os.length : Int) - 1 := by omega
      have hkn : k < os.length - 1 := by omega
      have HM := hide (List.getElem_mem hlt)
      have HRP := hide (((HR.out.2 _ HM.out).below HB.out).more HB.out.size)
      have HFP := hide (HF.out.o _ HM.out)
      have HNP := hide (HN.out _ HM.out)
      have HV2 := hide (show joinAll (os.map OV.d) = (joinD o.d (os[k + 1]).d).bind fun x => joins x ((os.map OV.d).drop (k + 1 + 1)) from by
        rw [HV.out, joins_drop (by simpa using hlt)]
        simp)
      have HFO := hide (fit_sm (valid_sm HOK2.out) HO.out.2.cap.1)
      have HNO := hide (nils_own HO.out)
      clear hcc HM HV hbb'
      generalize os[k + 1] = p at *
      have B1 : Below wr.heap.size wr (wr.alloc (.cells #[.slice p.A p.ps.length p.c, .slice p.Y p.ys.length p.yc] 26)) := (by repeat (first | exact Below.refl _ _ | with_reducible assumption | (refine Below.drew ?_) | (refine Below.drewN ?_ _) | (refine Below.alloc ?_ (by simp; try omega) _) | (refine Below.setCell ?_ (by simp; try omega) _)))
      have HXP := hide (Box.new wr 26 #[.slice p.A p.ps.length p.c, .slice p.Y p.ys.length p.yc])
      replace HRP := hide ((HRP.out.below B1).more B1.size)
      replace HB := hide (HB.out.trans (B1.mono HB.out.size))
      replace HRR := hide (HRR.out.call B1)
      replace HX := hide (HX.out.call B1)
      replace HO := hide (HO.out.call B1)
      clear B1
      have x0 := HX.out.cell 0
      have x1 := HX.out.cell 1
      simp only [List.getElem?_toArray, List.getElem?_cons_zero, List.getElem?_cons_succ] at x0 x1
      have y0 := HXP.out.cell 0
      have y1 := HXP.out.cell 1
      simp only [List.getElem?_toArray, List.getElem?_cons_zero, List.getElem?_cons_succ] at y0 y1
      have hxl := HX.out.lt
      have hyl := HXP.out.lt
      go_wp2_with fail
      clear hc0 hc1 x0 x1 y0 y1 hxl hyl HXP
      generalize wr.alloc (.cells #[.slice p.A p.ps.length p.c, .slice p.Y p.ys.length p.yc] 26) = w4 at *
      refine (joinObjects_any o p w4 HO.out.rd HRP.out HFO.out HFP.out HNO.out HNP.out).mono ?_
      rintro e w5 ⟨q, rfl, b5, hq5⟩
      have HQ5 := hide hq5
      have hw45 := HB.out.size
      have HXO := hide HX.out.lt
      replace HB := hide (HB.out.trans (b5.mono HB.out.size))
      replace HRR := hide (HRR.out.call b5)
      replace HX := hide (HX.out.call b5)
      replace HO := hide (HO.out.call b5)
      generalize hjd : joinD o.d p.d = r at *
      have B6 : Below w5.heap.size w5 (w5.alloc (.cells #[.slice q.A q.ps.length q.c, .slice q.Y q.ys.length q.yc] 26)) := (by repeat (first | exact Below.refl _ _ | with_reducible assumption | (refine Below.drew ?_) | (refine Below.drewN ?_ _) | (refine Below.alloc ?_ (by simp; try omega) _) | (refine Below.setCell ?_ (by simp; try omega) _)))
      have HXQ := hide (Box.new w5 26 #[.slice q.A q.ps.length q.c, .slice q.Y q.ys.length q.yc])
      have HRQ := hide (fun d (hd : r = some d) => And.intro (HQ5.out d hd).1 (((HQ5.out d hd).2.down hw45).call B6))
      have HQN := hide (fun d (hd : r = some d) k (hk : oblk q k) => (show w4.heap.size ≤ k from ((HQ5.out d hd).2.lt k hk).1))
      have hs6 := B6.size
      replace HB := hide (HB.out.trans (B6.mono HB.out.size))
      replace HRR := hide (HRR.out.call B6)
      replace HX := hide (HX.out.call B6)
      replace HO := hide (HO.out.call B6)
      clear B6
      clear hq5 HQ5 b5 HRP HFP HNP HFO HNO
      cases r with
      | none =>
        have HN9 := hide (show joinAll (os.map OV.d) = none from by rw [HV2.out, Option.bind_none])
        clear hjd HRQ HQN HV2
        simp only [Option.isSome]
        have y0 := HRR.out.cell 0
        have y1 := HRR.out.cell 1
        simp only [List.getElem?_toArray, List.getElem?_cons_zero, List.getElem?_cons_succ] at y0 y1
        have yf0 := HRR.out.frozen 0
        have yf1 := HRR.out.frozen 1
        have hrl := HRR.out.lt
        obtain ⟨k0, k1⟩ := cells2 (u := .slice none 0 0) (v := .slice none 0 0) HRR.out
        have HFB := hide (below2 HB.out (Nat.le_refl _) (.slice none 0 0) (.slice none 0 0))
        go_wp2_with fail
        (try simp only [Exit.inBlock, Exit.then])
        exact bodyPost_ret (v := .tuple #[.agg #[.slice none 0 0, .slice none 0 0], .bool false]) (by simp [results, Tryz.results46, go_sem, k0, k1]) rfl (by rw [HN9.out]; exact ret_nilO HFB.out)
      | some d =>
        obtain ⟨rfl, hoq⟩ := HRQ.out d rfl
        have HOQ := hide hoq
        have HKQ := hide (joinD_ok hjd)
        have HNV := hide (show joinAll (os.map OV.d) = joins q.d ((os.map OV.d).drop (k + 1 + 1)) from by rw [HV2.out, Option.bind_some])
        have HXO3 := hide (show ∀ k, oblk q k → k ≠ O from fun k hk e => by
          have h1 := HQN.out _ rfl k hk
          have h2 := HXO.out
          omega)
        clear hjd HRQ HQN HV2
        simp only [Option.isSome]
        have z0 := HXQ.out.cell 0
        have z1 := HXQ.out.cell 1
        simp only [List.getElem?_toArray, List.getElem?_cons_zero, List.getElem?_cons_succ] at z0 z1
        have hzl := HXQ.out.lt
        have x0 := HX.out.cell 0
        have x1 := HX.out.cell 1
        simp only [List.getElem?_toArray, List.getElem?_cons_zero, List.getElem?_cons_succ] at x0 x1
        have xf0 := HX.out.frozen 0
        have xf1 := HX.out.frozen 1
        have hxl := HX.out.lt
        have HRO2 := hide HRw.out
        have HO9 := hide (own2 HOQ.out HXO3.out (.slice q.A q.ps.length q.c) (.slice q.Y q.ys.length q.yc))
        have HX9 := hide ((HX.out.set 0 (.slice q.A q.ps.length q.c)).set 1 (.slice q.Y q.ys.length q.yc))
        have HR9 := hide ((HRR.out.far (p := ⟨O, 0, none⟩) (by show w.heap.size ≠ O; have := HRw.out; omega) (.slice q.A q.ps.length q.c)).far (p := ⟨O, 1, none⟩) (by show w.heap.size ≠ O; have := HRw.out; omega) (.slice q.Y q.ys.length q.yc))
        have HB9 := hide (below2 HB.out (Nat.le_of_lt HRw.out) (.slice q.A q.ps.length q.c) (.slice q.Y q.ys.length q.yc))
        clear HX HRR HB HXQ HOQ HO HXO3
        go_wp2_with fail
        refine ⟨⟨k + 1, q, by omega, by go_num, HNV.out, HKQ.out, HO9.out, HX9.out, HR9.out, HB9.out⟩, by simp [intOf]; omega⟩
    · have hke : k + 1 = os.length := by omega
      have HV1 := hide (show joinAll (os.map OV.d) = some o.d from by
        rw [HV.out, hke, List.drop_of_length_le (by rw [List.length_map]; exact Nat.le_refl _)]
        rfl)
      have hk2 : k = os.length - 1 := by omega
      clear hke HV
      subst hk2
      have x0 := HX.out.cell 0
      have x1 := HX.out.cell 1
      simp only [List.getElem?_toArray, List.getElem?_cons_zero, List.getElem?_cons_succ] at x0 x1
      have hxl := HX.out.lt
      have y0 := HRR.out.cell 0
      have y1 := HRR.out.cell 1
      simp only [List.getElem?_toArray, List.getElem?_cons_zero, List.getElem?_cons_succ] at y0 y1
      have yf0 := HRR.out.frozen 0
      have yf1 := HRR.out.frozen 1
      have hrl := HRR.out.lt
      obtain ⟨k0, k1⟩ := cells2 (u := .slice o.A o.ps.length o.c) (v := .slice o.Y o.ys.length o.yc) HRR.out
      have HFIN := hide (ret_ok (R := w.heap.size) HO.out HB.out (HO.out.ne_box HRR.out (by decide) (by decide) (by decide) (by decide)) (Nat.le_refl _))
      go_wp2_with fail
      (try simp only [Exit.inBlock, Exit.then])
      exact bodyPost_ret (v := .tuple #[.agg #[.slice o.A o.ps.length o.c, .slice o.Y o.ys.length o.yc], .bool true]) (by simp [results, Tryz.results46, go_sem, k0, k1]) rfl (by rw [HV1.out]; exact HFIN.out)
end Go.Proofs.YtepoiphmmjfbdaaGreatDoor.CJoinAI
/- A slice that is made, in a region that draws its order; a box far from a store. -/
namespace Go.Proofs.YtepoiphmmjfbdaaGreatDoor.BMake
set_option maxRecDepth 200000
open Go.ChangeShapes Go.WideShapes Go.ChangeAt Go.RowKit Kit CFixups CSymbols PObj BObj
theorem step_make {P : Program} {ops : Array Oper} {o : Oper} {a : Act} {K : Act → World → Prop} {Q : Exit → Act → World → Prop} {E : Prop} {w : World}
    (hg : o.guard = none) (l c : Operand) (t : TypeId) (hop : o.op = Op.makeSlice t l c)
    (base : Nat) (e : TypeId) (i : TypeInfo) (z : Value) (size : Nat) (h1 : P.underlying t = some (.slice e)) (h2 : P.info? e = some i) (h3 : i.zero = some z) (h4 : i.size = size)
    (kl kc : IntKind) (L C : Int) (n : Nat) (hl : a.eval l = .int kl L) (hc : a.eval c = .int kc C) (hL : L = (n : Int)) (hC : C = (n : Int)) (b2 : i.bytes * n ≤ 281474976710656) (b3 : n ≤ maxLen) (b4 : base ≤ w.heap.size)
    (hK : ∀ w', w'.ownsRow base e size (.slice (some ⟨w.heap.size, 0, none⟩) n n) n (madeCells z.cells (n * size)).toList → w.grownBy w' none → K (a.put o.dst (.slice (some ⟨w.heap.size, 0, none⟩) n n)) w') :
    if Region.wanted o (yielded ops a.tmps) = true then Oper.wp P o a w K Q else E := by
  have hw : Region.wanted o (yielded ops a.tmps) = true := by simp [Region.wanted, hg]
  rw [if_pos hw]
  obtain ⟨w', hrun, r1, r2⟩ := run_make_full (P := P) w base t e i z size h1 h2 h3 h4 kl kc n b2 b3 b4
  subst hL
  subst hC
  unfold Oper.wp
  simp [execOp, hop, hl, hc, hrun, Result.andThen]
  exact hK _ r1 r2
theorem box_setFar {w : World} {X g i : Nat} {t : TypeId} {cs : Array Value} {u : Value} (h : Box w X t cs) (hne : X ≠ g) : Box (w.setCell ⟨g, i, none⟩ u) X t cs := (Below.heap_setCell w ⟨g, i, none⟩ u X hne).trans h
end Go.Proofs.YtepoiphmmjfbdaaGreatDoor.BMake
/- A layout in memory while it is laid out: the places, where the kinds end. -/
namespace Go.Proofs.YtepoiphmmjfbdaaGreatDoor.BLay
set_option maxRecDepth 200000
open Go.ChangeShapes Go.WideShapes Go.ChangeAt Go.RowKit Kit CFixups CSymbols PObj BObj CMarkRows BStore BList PLink
structure LI (w0 : World) (X : Nat) (A : Option Addr) (c : Nat) (rs : List RV) (E : Option Addr) (ec : Nat) (es : List RV) (w : World) : Prop where
  hrs : OwnRs w w0.heap.size A c rs
  hes : OwnRs w w0.heap.size E ec es
  out : Apart A c E ec
  inn : ∀ p ∈ rs, ∀ q ∈ es, Apart p.A p.c q.A q.c
  x : Box w X 84 #[.slice A rs.length c, .slice E es.length ec]
  r : Box w w0.heap.size 84 #[.slice none 0 0, .slice none 0 0]
  b : Below w0.heap.size w0 w
  xr : w0.heap.size < X
theorem map_setP (rs : List RV) (k i : Nat) (v : Int) (hk : k < rs.length) : (rs.set k { rs[k] with zs := rs[k].zs.set i v }).map RV.zs = setP (rs.map RV.zs) k i v := by
  unfold setP
  rw [List.map_set, List.getD_eq_getElem?_getD, List.getElem?_map, List.getElem?_eq_getElem hk]
  rfl
section
variable {w0 w w' : World} {X : Nat} {A E : Option Addr} {c ec : Nat} {rs es : List RV}
theorem LI.call (h : LI w0 X A c rs E ec es w) (hb : Below w.heap.size w w') : LI w0 X A c rs E ec es w' :=
  ⟨h.hrs.call hb, h.hes.call hb, h.out, h.inn, h.x.call hb, h.r.call hb, h.b.trans (hb.mono h.b.size), h.xr⟩
theorem LI.put (h : LI w0 X A c rs E ec es w) {k : Nat} (hk : k < rs.length) {i : Nat} (hi : i < rs[k].zs.length) (v : Int) :
    ∃ g, rs[k].A = some ⟨g, 0, none⟩ ∧ g < w.heap.size ∧ (∀ (Y : Nat) (t : TypeId) (cs : Array Value), Box w Y t cs → 3 ≠ t → Y ≠ g) ∧ (w.frozen? ⟨g, i, none⟩ = false) ∧ (∃ u, w.cell? ⟨g, i, none⟩ = some (.int .i64 u)) ∧ LI w0 X A c (rs.set k { rs[k] with zs := rs[k].zs.set i v }) E ec es (w.setCell ⟨g, i, none⟩ (.int .i64 v)) := by
  obtain ⟨g, hA, hb1, hb2, hbk, ⟨cs, hbox⟩, hf, hu, hown⟩ := h.hrs.put hk hi v
  have hq := h.hrs.2.1 rs[k] (List.getElem_mem hk)
  refine ⟨g, hA, hb2, (fun Y t cs hY ht e => hq.box hY ht g hbk e.symm), hf, hu, hown, ?_, h.out, ?_, ?_, ?_, ?_, h.xr⟩
  · refine h.hes.keep fun j _ _ hj => Below.heap_setCell w ⟨g, i, none⟩ _ j ?_
    rintro rfl
    rcases hj with hj | ⟨q, hq2, hj⟩
    · exact apartT h.hes.1 hq (by decide) _ hj hbk
    · exact h.inn _ (List.getElem_mem hk) q hq2 _ hbk hj
  · intro p hp q hq2
    obtain ⟨j, hj, rfl⟩ := List.getElem_of_mem hp
    rw [List.length_set] at hj
    rw [List.getElem_set]
    by_cases hkj : k = j
    · subst hkj
      rw [if_pos rfl]
      exact h.inn _ (List.getElem_mem hk) q hq2
    · rw [if_neg hkj]
      exact h.inn _ (List.getElem_mem hj) q hq2
  · have hx := BMake.box_setFar (g := g) (i := i) (u := .int .i64 v) h.x (fun e => hq.box h.x (by decide) g hbk e.symm)
    rw [List.length_set]
    exact hx
  · exact BMake.box_setFar (g := g) (i := i) (u := .int .i64 v) h.r (fun e => hq.box h.r (by decide) g hbk e.symm)
  · exact h.b.setCell (p := ⟨g, i, none⟩) hb1 _
/-- A row of an end is put behind the last. -/
theorem LI.snoc (h : LI w0 X A c rs E ec es w) {q : RV} (hq : RwR w w0.heap.size q) {N : Nat} (hold : ∀ p ∈ es, ∀ k, blk p.A p.c = some k → k < N) (holdr : ∀ p ∈ rs, ∀ k, blk p.A p.c = some k → k < N) (hnew : ∀ k, blk q.A q.c = some k → N ≤ k)
    {E' : Option Addr} {n' c' : Nat} (hn : n' = es.length + 1) (row : Row w' w0.heap.size 89 1 E' n' c' (cellsOf rowC es ++ rowC q)) (g : w.grownBy w' (blk E ec)) (hk : ∀ k, blk E' c' = some k → blk E ec = some k ∨ w.heap.size ≤ k) :
    LI w0 X A c rs E' c' (es ++ [q]) (w'.setCell ⟨X, 1, none⟩ (.slice E' n' c')) := by
  have hes := OwnRs.snoc h.hes hq hold hnew hn row g
  have hx := h.x.grown g (h.hes.1.box h.x (by decide))
  have hr := h.r.grown g (h.hes.1.box h.r (by decide))
  have hrs : OwnRs w' w0.heap.size A c rs := ⟨h.hrs.1.grown g (fun j hj e => h.out j hj e), fun p hp => (h.hrs.2.1 p hp).grown g (fun j hj => apartT (h.hrs.2.1 p hp) h.hes.1 (by decide) j hj), h.hrs.2.2⟩
  have hb := h.b.grown g h.b.size (fun j hj => (h.hes.1.lt j hj).1)
  have hX := h.xr
  refine ⟨hrs.set hx (by decide) (by decide) 1 _, hes.set hx (by decide) (by decide) 1 _, ?_, ?_, ?_, BMake.box_setFar hr (by omega), hb.setCell (p := ⟨X, 1, none⟩) (show w0.heap.size ≤ X by omega) _, h.xr⟩
  · intro j h1 h2
    rcases hk j h2 with h3 | h3
    · exact h.out j h1 h3
    · have := (h.hrs.1.lt j h1).2
      omega
  · intro p hp q' hq'
    rcases List.mem_append.1 hq' with hq' | hq'
    · exact h.inn p hp q' hq'
    · have e := List.mem_singleton.1 hq'
      subst e
      intro j h1 h2
      have e1 := holdr p hp j h1
      have e2 := hnew j h2
      omega
  · subst hn
    have := hx.set 1 (.slice E' (es.length + 1) c')
    rw [List.length_append]
    exact this
end
end Go.Proofs.YtepoiphmmjfbdaaGreatDoor.BLay
/- layoutOf: where the sections of objects lie. -/
namespace Go.Proofs.YtepoiphmmjfbdaaGreatDoor.CLayout
set_option maxRecDepth 200000
open Go.ChangeShapes Go.WideShapes Go.ChangeAt Go.RowKit Kit CCode CName CFixups CSymbols PObj BObj PValid CSecValid CObjValid BStore CMarkRows BMake BList PLink CValids BLay
theorem infoR : (Tryz.prog.info? 89).map (fun i => (i.zero, i.size, i.bytes)) = some (some (.slice none 0 0), 1, 24) := by kernel_rfl
theorem rdRs_nil (w : World) (B : Nat) (A : Option Addr) : RdRs w B A [] := ⟨Rd.nil _, fun r hr => by cases hr⟩
/-- A layout: the places of all sections, and where the kinds end. -/
def LayV (l : List OD) (base : Int) (w : World) (e : Ending) (w' : World) : Prop :=
  ∃ A c rs E ec es, e = .returned (.tuple #[.agg #[.slice A (rs : List RV).length c, .slice E (es : List RV).length ec], .bool (objsOk l && baseOk base)]) ∧ ((objsOk l && baseOk base) = true → rs.map RV.zs = (lay l base).2 ∧ es.length = 3 ∧ ∃ x, (es.map RV.zs).getD 2 [] = [x, (lay l base).1]) ∧ RdRs w' w'.heap.size A rs ∧ RdRs w' w'.heap.size E es ∧ Below w.heap.size w w'
theorem lay_bad {l : List OD} {base : Int} {w w' : World} (h : (objsOk l && baseOk base) = false) (hb : Below w.heap.size w w') : LayV l base w (.returned (.tuple #[.agg #[.slice none 0 0, .slice none 0 0], .bool false])) w' :=
  ⟨none, 0, [], none, 0, [], by rw [h]; rfl, (fun h' => by rw [h] at h'; cases h'), rdRs_nil _ _ _, rdRs_nil _ _ _, hb⟩
theorem sec_size {many : Int} {d : SD} (h : secOk many d = true) : (0 ≤ secSize d ∧ secSize d ≤ 48) ∧ alignOk d.al = true ∧ 1 ≤ d.kd ∧ d.kd ≤ 3 := by
  rw [secOk, Bool.and_eq_true] at h
  obtain ⟨h1, h2⟩ := h
  simp only [headOk, Bool.and_eq_true, inB, decide_eq_true_eq] at h1
  refine ⟨?_, h1.2, h1.1.2.1, h1.1.2.2⟩
  unfold secSize
  by_cases hk : d.kd = 3
  · rw [if_pos hk] at h2 ⊢
    simp only [blankOk, Bool.and_eq_true, inB, decide_eq_true_eq] at h2
    exact h2.1.1
  · rw [if_neg hk] at h2 ⊢
    simp only [bodyOk, Bool.and_eq_true, decide_eq_true_eq] at h2
    omega
def Shp (l : List OD) (P : List (List Int)) : Prop := P.map List.length = l.map fun d => d.ss.length
theorem shp_set {l : List OD} {P : List (List Int)} (h : Shp l P) (k i : Nat) (v : Int) : Shp l (setP P k i v) := by
  unfold Shp at *
  rw [← h]
  unfold setP
  refine List.ext_getElem? fun j => ?_
  rw [List.getElem?_map, List.getElem?_map, List.getElem?_set]
  by_cases hkj : k = j
  · subst hkj
    rw [if_pos rfl]
    by_cases hk : k < P.length
    · rw [if_pos hk, List.getD_eq_getElem?_getD, List.getElem?_eq_getElem hk]
      simp
    · rw [if_neg hk, List.getElem?_eq_none (by omega)]
  · rw [if_neg hkj]
theorem shp_at {l : List OD} {P : List (List Int)} (h : Shp l P) {k : Nat} (hk : k < l.length) : ∃ hp : k < P.length, P[k].length = l[k].ss.length := by
  have hl : P.length = l.length := by simpa using congrArg List.length h
  refine ⟨by omega, ?_⟩
  have h2 : (P.map List.length)[k]? = (l.map fun d => d.ss.length)[k]? := by rw [h]
  rw [List.getElem?_map, List.getElem?_map, List.getElem?_eq_getElem hk, List.getElem?_eq_getElem (by omega)] at h2
  simpa using h2
theorem shp_zero (l : List OD) : Shp l (zeroP l) := by
  unfold Shp zeroP
  rw [List.map_map]
  exact List.map_congr_left fun d _ => List.length_replicate
/-- The kinds that are left. -/
def kindsS (l : List OD) (ks : List Int) (st : St) : St := ks.foldl (fun st kd => kindS l kd st) st
theorem kinds_drop (l : List OD) {j : Nat} (hj : j < 3) (st : St) : kindsS l (([1, 2, 3] : List Int).drop j) st = kindsS l (([1, 2, 3] : List Int).drop (j + 1)) (foldO (j + 1) 0 l (al st.1 8, st.2)) := by
  have h : j = 0 ∨ j = 1 ∨ j = 2 := by omega
  rcases h with rfl | rfl | rfl <;> rfl
theorem step_bd {kd a : Int} {k i : Nat} {s : SD} {P : List (List Int)} (h1 : 0 ≤ secSize s ∧ secSize s ≤ 48) (h2 : alignOk s.al = true) (h0 : 0 ≤ a) : 0 ≤ (stepS kd k i s (a, P)).1 ∧ (stepS kd k i s (a, P)).1 ≤ a + 60 := by
  obtain ⟨e1, e2⟩ := al_bd h0 h2
  unfold stepS
  by_cases hk : s.kd = kd
  · rw [decide_eq_true hk]
    simp only [cond_true]
    omega
  · rw [decide_eq_false hk]
    simp only [cond_false]
    omega
def Q (j k i : Nat) : Int := 4104 + 2000 * j + 490 * k + 60 * i
set_option maxHeartbeats 4000000 in
theorem layoutOf_any (A : Option Addr) (os : List OV) (c : Nat) (base : Int) (w : World) (hr : RdOs w w.heap.size A os) (hf : Fits os) :
    Calls Tryz.prog 52 #[.slice A os.length c, .int .i64 base] w (LayV (os.map OV.d) base w) := by
  obtain ⟨i0, hi1, hi2, hi3, hi4⟩ := info_parts infoR
  have HI := hide (And.intro hi1 (And.intro hi2 (And.intro hi3 hi4)))
  clear hi1 hi2 hi3 hi4
  obtain ⟨j0, hj1, hj2, hj3, hj4⟩ := info_parts CInts.info64
  have HJ := hide (And.intro hj1 (And.intro hj2 (And.intro hj3 hj4)))
  clear hj1 hj2 hj3 hj4
  have HR := hide hr
  have HF := hide hf
  clear hr hf
  have HB := hide (show Below w.heap.size w (w.alloc (.cells #[.slice none 0 0, .slice none 0 0] 84)) from (by repeat (first | exact Below.refl _ _ | with_reducible assumption | (refine Below.drew ?_) | (refine Below.drewN ?_ _) | (refine Below.alloc ?_ (by simp; try omega) _) | (refine Below.setCell ?_ (by simp; try omega) _))))
  have HRR := hide (Box.new w 84 #[.slice none 0 0, .slice none 0 0])
  go_enter Tryz.func52, Tryz.ntmps52
  go_wp2_with fail
  generalize w.alloc (.cells #[.slice none 0 0, .slice none 0 0] 84) = w0 at *
  refine (objectsValid_any A os c w0 ((HR.out.below HB.out).more HB.out.size) HF.out).mono ?_
  rintro e w1 ⟨rfl, b1⟩
  replace HB := hide (HB.out.trans (b1.mono HB.out.size))
  replace HRR := hide (HRR.out.call b1)
  clear b1
  have HL := hide (fun (w9 : World) => @lay_bad (os.map OV.d) base w w9)
  cases hok : objsOk (os.map OV.d)
  · have HV := hide (show (objsOk (os.map OV.d) && baseOk base) = false by rw [hok]; rfl)
    clear hok
    have y0 := HRR.out.cell 0
    have y1 := HRR.out.cell 1
    simp only [List.getElem?_toArray, List.getElem?_cons_zero, List.getElem?_cons_succ] at y0 y1
    have yf0 := HRR.out.frozen 0
    have yf1 := HRR.out.frozen 1
    have hrl := HRR.out.lt
    have kk := (HRR.out.set 0 (.slice none 0 0)).set 1 (.slice none 0 0)
    have k0 := kk.cell 0
    have k1 := kk.cell 1
    simp only [List.setIfInBounds_toArray, List.set_cons_zero, List.set_cons_succ, List.getElem?_toArray, List.getElem?_cons_zero, List.getElem?_cons_succ] at k0 k1
    clear kk
    have HFB := hide (two_below (Y := w.heap.size) HB.out (Nat.le_refl _) (.slice none 0 0) (.slice none 0 0))
    go_wp2_with fail
    (try simp only [Exit.inBlock, Exit.then])
    exact bodyPost_ret (v := .tuple #[.agg #[.slice none 0 0, .slice none 0 0], .bool false]) (by simp [results, Tryz.results52, go_sem, k0, k1]) rfl (HL.out _ HV.out HFB.out)
  go_wp2_with fail
  refine (isBase_any base w1).mono ?_
  rintro e w' ⟨rfl, rfl⟩
  cases hbs : baseOk base
  · have HV := hide (show (objsOk (os.map OV.d) && baseOk base) = false by rw [hok, hbs]; rfl)
    clear hok hbs
    have y0 := HRR.out.cell 0
    have y1 := HRR.out.cell 1
    simp only [List.getElem?_toArray, List.getElem?_cons_zero, List.getElem?_cons_succ] at y0 y1
    have yf0 := HRR.out.frozen 0
    have yf1 := HRR.out.frozen 1
    have hrl := HRR.out.lt
    have kk := (HRR.out.set 0 (.slice none 0 0)).set 1 (.slice none 0 0)
    have k0 := kk.cell 0
    have k1 := kk.cell 1
    simp only [List.setIfInBounds_toArray, List.set_cons_zero, List.set_cons_succ, List.getElem?_toArray, List.getElem?_cons_zero, List.getElem?_cons_succ] at k0 k1
    clear kk
    have HFB := hide (two_below (Y := w.heap.size) HB.out (Nat.le_refl _) (.slice none 0 0) (.slice none 0 0))
    go_wp2_with fail
    (try simp only [Exit.inBlock, Exit.then])
    exact bodyPost_ret (v := .tuple #[.agg #[.slice none 0 0, .slice none 0 0], .bool false]) (by simp [results, Tryz.results52, go_sem, k0, k1]) rfl (HL.out _ HV.out HFB.out)
  clear HL
  have HV := hide (show (objsOk (os.map OV.d) && baseOk base) = true by rw [hok, hbs]; rfl)
  have hb0 : 0 ≤ base ∧ base ≤ 4096 := by
    simp only [baseOk, Bool.and_eq_true, decide_eq_true_eq] at hbs
    exact hbs.1
  obtain ⟨hb1, hb2⟩ := hb0
  have hol : os.length ≤ 4 := by
    simp only [objsOk, Bool.and_eq_true, decide_eq_true_eq, List.length_map] at hok
    exact hok.1
  have HALL := hide (show ∀ o ∈ os, o.ps.length ≤ 8 ∧ ∀ p ∈ o.ps, (0 ≤ secSize p.d ∧ secSize p.d ≤ 48) ∧ alignOk p.d.al = true from fun o ho => by
    simp only [objsOk, Bool.and_eq_true, List.all_eq_true] at hok
    have h := hok.2 _ (List.mem_map_of_mem ho)
    simp only [objOk, Bool.and_eq_true, decide_eq_true_eq, List.all_eq_true] at h
    refine ⟨by simpa [OV.d] using h.1.1.1, fun p hp => ?_⟩
    have hs := sec_size (h.1.2 p.d (List.mem_map_of_mem hp))
    exact ⟨hs.1, hs.2.1⟩)
  clear hok hbs
  go_wp2_with fail
  have B2 : Below w1.heap.size w1 (w1.alloc (.cells #[.slice none 0 0, .slice none 0 0] 84)) := (by repeat (first | exact Below.refl _ _ | with_reducible assumption | (refine Below.drew ?_) | (refine Below.drewN ?_ _) | (refine Below.alloc ?_ (by simp; try omega) _) | (refine Below.setCell ?_ (by simp; try omega) _)))
  have HX := hide (Box.new w1 84 #[.slice none 0 0, .slice none 0 0])
  have hRX : w.heap.size < w1.heap.size := HRR.out.lt
  replace HB := hide (HB.out.trans (B2.mono HB.out.size))
  replace HRR := hide (HRR.out.call B2)
  clear B2
  generalize w1.alloc (.cells #[.slice none 0 0, .slice none 0 0] 84) = w2 at *
  generalize w1.heap.size = X at *
  go_loopw [29] (fun i wi => ∃ (k : Nat) (A1 : Option Addr) (c1 : Nat) (rs : List RV), k ≤ os.length ∧ i = .int .i64 k ∧ rs.length = k ∧ rs.map RV.zs = (zeroP (os.map OV.d)).take k ∧ OwnRs wi w.heap.size A1 c1 rs ∧ Box wi X 84 #[.slice A1 k c1, .slice none 0 0] ∧ Box wi w.heap.size 84 #[.slice none 0 0, .slice none 0 0] ∧ Below w.heap.size w wi) (fun i _ => os.length - (intOf i).toNat)
  case atStart => exact ⟨0, none, 0, [], Nat.zero_le _, rfl, rfl, rfl, ⟨Row.empty _ _ _ _ _, (fun p hp => by cases hp), List.Pairwise.nil⟩, HX.out, HRR.out, HB.out⟩
  case round =>
    clear HX HRR HB
    obtain ⟨k, A1, c1, rs, hk, rfl, hrl, hrz, hown, hx, hrr, hb⟩ := hrel
    have HX := hide hx
    have HRR := hide hrr
    have HB := hide hb
    have HRS := hide hown
    have HRZ := hide hrz
    clear hrz hown hx hrr
    subst hrl
    by_cases hlt : rs.length < os.length
    · obtain ⟨bb, off, hA, hbb, hc0, hc1⟩ := (HR.out.below hb).at hlt
      have HZN := hide (show (zeroP (os.map OV.d)).take (rs.length + 1) = (zeroP (os.map OV.d)).take rs.length ++ [List.replicate os[rs.length].ps.length 0] from by
        rw [take_succ (by simpa [zeroP] using hlt)]
        simp [zeroP, OV.d])
      have hpl := (HALL.out _ (List.getElem_mem hlt)).1
      clear hb
      subst hA
      generalize os[rs.length] = o at *
      have x0 := HX.out.cell 0
      simp only [List.getElem?_toArray, List.getElem?_cons_zero, List.getElem?_cons_succ] at x0
      have hxl := HX.out.lt
      go_wp2_with fail
      have B1 : Below wr.heap.size wr (wr.alloc (.cells #[.slice o.A o.ps.length o.c, .slice o.Y o.ys.length o.yc] 26)) := (by repeat (first | exact Below.refl _ _ | with_reducible assumption | (refine Below.drew ?_) | (refine Below.drewN ?_ _) | (refine Below.alloc ?_ (by simp; try omega) _) | (refine Below.setCell ?_ (by simp; try omega) _)))
      have HO := hide (Box.new wr 26 #[.slice o.A o.ps.length o.c, .slice o.Y o.ys.length o.yc])
      replace HB := hide (HB.out.trans (B1.mono HB.out.size))
      replace HX := hide (HX.out.call B1)
      replace HRR := hide (HRR.out.call B1)
      replace HRS := hide (HRS.out.call B1)
      clear B1
      have hXO : X < wr.heap.size := hxl
      generalize wr.alloc (.cells #[.slice o.A o.ps.length o.c, .slice o.Y o.ys.length o.yc] 26) = wa at *
      generalize wr.heap.size = Z at *
      clear hc0 hc1 x0 hxl
      have x0 := HX.out.cell 0
      simp only [List.getElem?_toArray, List.getElem?_cons_zero, List.getElem?_cons_succ] at x0
      have y0 := HO.out.cell 0
      simp only [List.getElem?_toArray, List.getElem?_cons_zero, List.getElem?_cons_succ] at y0
      have hZw := HO.out.lt
      have hWB := HB.out.size
      have Z0 : wa.cell? ⟨X, 0, none⟩ = some (.slice A1 rs.length c1) ∧ wa.cell? ⟨Z, 0, none⟩ = some (.slice o.A o.ps.length o.c) := ⟨x0, y0⟩
      refine Reg.startT (fun W => W.cell? ⟨X, 0, none⟩ = some (.slice A1 rs.length c1) ∧ W.cell? ⟨Z, 0, none⟩ = some (.slice o.A o.ps.length o.c)) (fun j => j == 9) (by kernel_rfl) ?_
      have hHeld : wa.drew.cell? ⟨X, 0, none⟩ = some (.slice A1 rs.length c1) ∧ wa.drew.cell? ⟨Z, 0, none⟩ = some (.slice o.A o.ps.length o.c) := Z0
      clear Z0 x0 y0
      refine Reg.takeT (i := 0) (v := ?_) rfl (by kernel_rfl) (by kernel_rfl) (by kernel_rfl) (by kernel_rfl) (fun _ _ _ h => h) (Or.inl ⟨by rfl, ?_⟩) (by assumption) ?_
      rotate_left 1
      focus (intro w hSw; (try dsimp only at hSw); go_simp; (try with_reducible rfl))
      try simp only [List.getElem_toArray, List.getElem_cons_succ, List.getElem_cons_zero, Act.put, List.setIfInBounds_toArray, List.set_cons_zero, List.set_cons_succ]
      refine Reg.takeT (i := 1) (v := ?_) rfl (by kernel_rfl) (by kernel_rfl) (by kernel_rfl) (by kernel_rfl) (fun _ _ _ h => h) (Or.inl ⟨by rfl, ?_⟩) (by assumption) ?_
      rotate_left 1
      focus (intro w hSw; (try dsimp only at hSw); go_simp; (try with_reducible rfl))
      try simp only [List.getElem_toArray, List.getElem_cons_succ, List.getElem_cons_zero, Act.put, List.setIfInBounds_toArray, List.set_cons_zero, List.set_cons_succ]
      refine Reg.takeT (i := 2) (v := ?_) rfl (by kernel_rfl) (by kernel_rfl) (by kernel_rfl) (by kernel_rfl) (fun _ _ _ h => h) (Or.inl ⟨by rfl, ?_⟩) (by assumption) ?_
      rotate_left 1
      focus (intro w hSw; (try dsimp only at hSw); go_simp; (try with_reducible rfl))
      try simp only [List.getElem_toArray, List.getElem_cons_succ, List.getElem_cons_zero, Act.put, List.setIfInBounds_toArray, List.set_cons_zero, List.set_cons_succ]
      refine Reg.takeT (i := 3) (v := ?_) rfl (by kernel_rfl) (by kernel_rfl) (by kernel_rfl) (by kernel_rfl) (fun _ _ _ h => h) (Or.inl ⟨by rfl, ?_⟩) (by assumption) ?_
      rotate_left 1
      focus (intro w hSw; (try dsimp only at hSw); go_simp; (try with_reducible rfl))
      try simp only [List.getElem_toArray, List.getElem_cons_succ, List.getElem_cons_zero, Act.put, List.setIfInBounds_toArray, List.set_cons_zero, List.set_cons_succ]
      refine Reg.takeT (i := 4) (v := ?_) rfl (by kernel_rfl) (by kernel_rfl) (by kernel_rfl) (by kernel_rfl) (fun _ _ _ h => h) (Or.inl ⟨by rfl, ?_⟩) (by assumption) ?_
      rotate_left 1
      focus (intro w hSw; (try dsimp only at hSw); go_simp; (try with_reducible rfl))
      try simp only [List.getElem_toArray, List.getElem_cons_succ, List.getElem_cons_zero, Act.put, List.setIfInBounds_toArray, List.set_cons_zero, List.set_cons_succ]
      have bd : Below wa.heap.size wa wa.drew := below_dr (Below.refl _ _)
      replace HB := hide (HB.out.trans (bd.mono HB.out.size))
      replace HX := hide (HX.out.call bd)
      replace HRR := hide (HRR.out.call bd)
      replace HRS := hide (HRS.out.call bd)
      replace HO := hide (HO.out.call bd)
      clear bd
      generalize wa.drew = wd at *
      clear hZw hWB
      have hZw := HO.out.lt
      refine Reg.oneT (i := 5) rfl (by kernel_rfl) (fun K hK => ?_)
      refine step_make rfl _ _ _ rfl w.heap.size 3 j0 (.int .i64 0) 1 Tryz.underlying89 HJ.out.1 HJ.out.2.1 HJ.out.2.2.1 .i64 .i64 _ _ o.ps.length rfl rfl rfl rfl (by rw [HJ.out.2.2.2]; omega) (by unfold maxLen; omega) HB.out.size ?_
      intro w5 r1 r2
      have b5 : Below wd.heap.size wd w5 := below_grown (Below.refl _ _) r2 (Nat.le_refl _) (fun k hk => by cases hk)
      have hXd : X < wd.heap.size := HX.out.lt
      replace hHeld : w5.cell? ⟨X, 0, none⟩ = some (.slice A1 rs.length c1) ∧ w5.cell? ⟨Z, 0, none⟩ = some (.slice o.A o.ps.length o.c) := ⟨(b5.cell (p := ⟨X, 0, none⟩) hXd).trans hHeld.1, (b5.cell (p := ⟨Z, 0, none⟩) hZw).trans hHeld.2⟩
      refine hK.out _ _ hHeld ?_
      clear hK K
      try simp only [List.getElem_toArray, List.getElem_cons_succ, List.getElem_cons_zero, Act.put, List.setIfInBounds_toArray, List.set_cons_zero, List.set_cons_succ]
      have HNW := hide (show RwR w5 w.heap.size ⟨some ⟨wd.heap.size, 0, none⟩, o.ps.length, List.replicate o.ps.length 0⟩ from by
        rw [zero_cells] at r1
        refine .inr ?_
        simpa using r1)
      have HOLD := hide (HRS.out.lt)
      have hlow : w.heap.size ≤ wd.heap.size := HB.out.size
      clear r1 r2
      replace HB := hide (HB.out.trans (b5.mono HB.out.size))
      replace HX := hide (HX.out.call b5)
      replace HRR := hide (HRR.out.call b5)
      replace HRS := hide (HRS.out.call b5)
      replace HO := hide (HO.out.call b5)
      clear b5
      generalize wd.heap.size = M at *
      refine Reg.oneT (i := 6) rfl (by kernel_rfl) (fun K hK => ?_)
      go_simp
      have b6 : Below w5.heap.size w5 (w5.alloc (.cells #[.slice (some ⟨M, 0, none⟩) o.ps.length o.ps.length] 89)) := (by repeat (first | exact Below.refl _ _ | with_reducible assumption | (refine Below.drew ?_) | (refine Below.drewN ?_ _) | (refine Below.alloc ?_ (by simp; try omega) _) | (refine Below.setCell ?_ (by simp; try omega) _)))
      have hXd := HX.out.lt
      have hZw := HO.out.lt
      replace hHeld := And.intro ((b6.cell (p := ⟨X, 0, none⟩) hXd).trans hHeld.1) ((b6.cell (p := ⟨Z, 0, none⟩) hZw).trans hHeld.2)
      refine hK.out _ _ hHeld ?_
      clear hK K
      try simp only [List.getElem_toArray, List.getElem_cons_succ, List.getElem_cons_zero, Act.put, List.setIfInBounds_toArray, List.set_cons_zero, List.set_cons_succ]
      have HLIT := hide (rd_lit w5 #[.slice (some ⟨M, 0, none⟩) o.ps.length o.ps.length] 89 _ rfl)
      replace HNW := hide (show RwR (w5.alloc (.cells #[.slice (some ⟨M, 0, none⟩) o.ps.length o.ps.length] 89)) w.heap.size ⟨some ⟨M, 0, none⟩, o.ps.length, List.replicate o.ps.length 0⟩ from HNW.out.call b6)
      replace HB := hide (HB.out.trans (b6.mono HB.out.size))
      replace HX := hide (HX.out.call b6)
      replace HRR := hide (HRR.out.call b6)
      replace HRS := hide (HRS.out.call b6)
      replace HO := hide (HO.out.call b6)
      clear b6
      generalize w5.alloc (.cells #[.slice (some ⟨M, 0, none⟩) o.ps.length o.ps.length] 89) = w6 at *
      generalize w5.heap.size = L at *
      have HOWN := hide HRS.out
      refine Reg.oneT (i := 7) rfl (by kernel_rfl) (fun K hK => ?_)
      refine step_app (by rfl) _ _ 82 rfl 89 i0 (.slice none 0 0) 1 24 Tryz.underlying82 HI.out.1 HI.out.2.1 HI.out.2.2.1 HI.out.2.2.2 rfl (by decide) w.heap.size A1 rs.length c1 (cellsOf rowC rs) (by rfl) HRS.out.1 HB.out.size (some ⟨L, 0, none⟩) 1 1 [.slice (some ⟨M, 0, none⟩) o.ps.length o.ps.length] (by rfl) HLIT.out rfl (fun h => by cases h) ?o1 (by unfold maxLen; omega) (by omega) ?_
      case o1 =>
        intro u hu
        obtain rfl := List.mem_singleton.1 hu
        rfl
      intro A2 n2 c2 w7 hn o7 g7 k7
      have HNEW := hide (OwnRs.snoc (N := M) HRS.out (q := ⟨some ⟨M, 0, none⟩, o.ps.length, List.replicate o.ps.length 0⟩) HNW.out HOLD.out (fun k hk => by
        unfold blk at hk
        split at hk
        · cases hk
        · injection hk with hk
          exact Nat.le_of_eq hk) hn (by simpa [rowC] using o7) g7)
      replace HX := hide (HX.out.grown g7 (HRS.out.1.box HX.out (by decide)))
      replace HRR := hide (HRR.out.grown g7 (HRS.out.1.box HRR.out (by decide)))
      replace HO := hide (HO.out.grown g7 (HRS.out.1.box HO.out (by decide)))
      replace HB := hide (HB.out.grown g7 HB.out.size (fun j hj => (HRS.out.1.lt j hj).1))
      clear o7 g7 k7 HRS HOWN HLIT hHeld HNW
      refine hK.out _ _ ⟨HX.out.cell 0, HO.out.cell 0⟩ ?_
      clear hK K
      try simp only [List.getElem_toArray, List.getElem_cons_succ, List.getElem_cons_zero, Act.put, List.setIfInBounds_toArray, List.set_cons_zero, List.set_cons_succ]
      have hHeld : w7.cell? ⟨X, 0, none⟩ = some (.slice A1 rs.length c1) ∧ w7.cell? ⟨Z, 0, none⟩ = some (.slice o.A o.ps.length o.c) := ⟨HX.out.cell 0, HO.out.cell 0⟩
      refine Reg.takeT (i := 8) (v := ?_) rfl (by kernel_rfl) (by kernel_rfl) (by kernel_rfl) (by kernel_rfl) (fun _ _ _ h => h) (Or.inl ⟨by rfl, ?_⟩) (by assumption) ?_
      rotate_left 1
      focus (intro w hSw; (try dsimp only at hSw); go_simp; (try with_reducible rfl))
      try simp only [List.getElem_toArray, List.getElem_cons_succ, List.getElem_cons_zero, Act.put, List.setIfInBounds_toArray, List.set_cons_zero, List.set_cons_succ]
      clear hHeld
      have x0 := HX.out.cell 0
      simp only [List.getElem?_toArray, List.getElem?_cons_zero, List.getElem?_cons_succ] at x0
      have xf0 := HX.out.frozen 0
      have hxl := HX.out.lt
      refine Reg.lastT (i := 9) rfl (by kernel_rfl) (by rfl) (fun K hK => ?_)
      go_simp
      refine hK.out _ _ ?_
      clear hK K
      try simp only [List.getElem_toArray, List.getElem_cons_succ, List.getElem_cons_zero, Act.put, List.setIfInBounds_toArray, List.set_cons_zero, List.set_cons_succ]
      have HNE2 := hide (HNEW.out.set HX.out (by decide) (by decide) 0 (.slice A2 n2 c2))
      have HXE := hide (HX.out.set 0 (.slice A2 n2 c2))
      have HRE := hide (show Box (w7.setCell ⟨X, 0, none⟩ (.slice A2 n2 c2)) w.heap.size 84 #[.slice none 0 0, .slice none 0 0] from BMake.box_setFar HRR.out (by omega))
      have HBE := hide (HB.out.setCell (p := ⟨X, 0, none⟩) (show w.heap.size ≤ X by omega) (.slice A2 n2 c2))
      clear HNEW HX HRR HB x0 xf0 hxl HO
      subst hn
      refine Reg.doneT (by kernel_rfl) ?_ _
      go_wp2_with fail
      refine ⟨⟨rs.length + 1, A2, c2, rs ++ [⟨some ⟨M, 0, none⟩, o.ps.length, List.replicate o.ps.length 0⟩], by omega, by go_num, by simp, by rw [HZN.out, List.map_append, HRZ.out]; rfl, HNE2.out, HXE.out, HRE.out, HBE.out⟩, by simp [intOf]; omega⟩
    · have hrl : rs.length = os.length := by omega
      have hrz : rs.map RV.zs = zeroP (os.map OV.d) := by rw [HRZ.out, hrl, List.take_of_length_le (by simp [zeroP])]
      have HLI := hide (show LI w X A1 c1 rs none 0 [] wr from ⟨HRS.out, ⟨Row.empty _ _ _ _ _, (fun p hp => by cases hp), List.Pairwise.nil⟩, (fun k h1 h2 => by cases h2), (fun p hp q hq => by cases hq), HX.out, HRR.out, HB.out, hRX⟩)
      have HSH := hide (show Shp (os.map OV.d) (rs.map RV.zs) from by rw [hrz]; exact shp_zero _)
      have HLAY := hide (show lay (os.map OV.d) base = kindsS (os.map OV.d) (([1, 2, 3] : List Int).drop 0) (base, rs.map RV.zs) from by rw [hrz]; rfl)
      clear HRS HX HRR HB HRZ hrz hlt hb
      rw [hrl]
      clear hrl hk
      generalize hLL : os.map OV.d = l at *
      have HLL := hide hLL
      clear hLL
      go_wp2_with fail
      go_loopw [10, 7] (fun kd at_ wi => ∃ (j : Nat) (a : Int) (rs : List RV) (E : Option Addr) (ec : Nat) (es : List RV), j ≤ 3 ∧ kd = .int .i64 ((j : Int) + 1) ∧ at_ = .int .i64 a ∧ lay l base = kindsS l (([1, 2, 3] : List Int).drop j) (a, rs.map RV.zs) ∧ Shp l (rs.map RV.zs) ∧ 0 ≤ a ∧ a ≤ 4096 + 2000 * j ∧ es.length = j ∧ (j = 0 ∨ ∃ x, (es.map RV.zs).getD (j - 1) [] = [x, a]) ∧ LI w X A1 c1 rs E ec es wi) (fun kd _ _ => 4 - (intOf kd).toNat)
      case atStart => exact ⟨0, base, rs, none, 0, [], Nat.zero_le _, rfl, rfl, HLAY.out, HSH.out, hb1, by omega, rfl, .inl rfl, HLI.out⟩
      case round =>
        clear HLAY HSH HLI
        obtain ⟨j, a, rs, E, ec, es, hj, rfl, rfl, hlay, hsh, ha0, ha1, hes, hend, hli⟩ := hrel
        have HLI := hide hli
        have HSH := hide hsh
        have HEND := hide hend
        have HES := hide hes
        have hes3 : es.length ≤ 3 := by omega
        clear hsh hend hes
        by_cases hj3 : j < 3
        · have HLAY := hide (show lay l base = kindsS l (([1, 2, 3] : List Int).drop (j + 1)) (foldO ((j : Int) + 1) 0 l (al a 8, rs.map RV.zs)) from hlay.trans (kinds_drop l hj3 _))
          have e3 : decide ((j : Int) + 1 ≤ 3) = true := decide_eq_true (by omega)
          clear hlay hli
          go_wp2_with fail
          refine (aligned_any a 8 wr ha0 (by omega) (by decide)).mono ?_
          rintro e w' ⟨rfl, rfl⟩
          obtain ⟨g1, g2⟩ := al_bd ha0 (show alignOk 8 = true by decide)
          generalize al a 8 = b at *
          generalize hT : foldO ((j : Int) + 1) 0 l (b, rs.map RV.zs) = T at *
          have HT := hide (show T = foldO ((j : Int) + 1) 0 (l.drop 0) (b, rs.map RV.zs) from hT.symm)
          clear hT e3
          go_wp2_with fail
          go_loopw [52, 7] (fun i at_ wi => ∃ (k : Nat) (d : Int) (rs : List RV), k ≤ os.length ∧ i = .int .i64 k ∧ at_ = .int .i64 d ∧ T = foldO ((j : Int) + 1) k (l.drop k) (d, rs.map RV.zs) ∧ Shp l (rs.map RV.zs) ∧ 0 ≤ d ∧ d ≤ 4104 + 2000 * j + 490 * k ∧ LI w X A1 c1 rs E ec es wi) (fun i _ _ => os.length - (intOf i).toNat)
          case atStart => exact ⟨0, b, rs, Nat.zero_le _, rfl, rfl, HT.out, HSH.out, by omega, by omega, HLI.out⟩
          case round =>
            clear HT HSH HLI
            obtain ⟨k, d, rs, hk, rfl, rfl, ht, hsh, hd0, hd1, hli⟩ := hrel
            have HLI := hide hli
            have HSH := hide hsh
            by_cases hlt : k < os.length
            · obtain ⟨bb, off, hA, hbb, hc0, hc1⟩ := (HR.out.below hli.b).at hlt
              have hll : k < l.length := by rw [← HLL.out, List.length_map]; exact hlt
              have HT := hide (ht.trans (foldO_drop hll k _))
              have HPS := hide (show l[k].ss = os[k].ps.map SV.d from by
                have := HLL.out
                subst this
                simp [OV.d])
              have HSP := hide (show ∀ P : List (List Int), Shp l P → ∃ hp : k < P.length, P[k].length = os[k].ps.length from fun P hP => by
                obtain ⟨h1, h2⟩ := shp_at hP hll
                refine ⟨h1, ?_⟩
                rw [h2, HPS.out, List.length_map])
              have HAO := hide (HALL.out _ (List.getElem_mem hlt))
              have hpl := HAO.out.1
              have HRO := hide (HR.out.2 _ (List.getElem_mem hlt)).1
              have HFO := hide (HF.out.o _ (List.getElem_mem hlt)).p
              clear hli ht hsh
              subst hA
              rw [HPS.out] at HT
              clear HPS
              generalize os[k] = o at *
              go_wp2_with fail
              have B1 : Below wr.heap.size wr (wr.alloc (.cells #[.slice o.A o.ps.length o.c, .slice o.Y o.ys.length o.yc] 26)) := (by repeat (first | exact Below.refl _ _ | with_reducible assumption | (refine Below.drew ?_) | (refine Below.drewN ?_ _) | (refine Below.alloc ?_ (by simp; try omega) _) | (refine Below.setCell ?_ (by simp; try omega) _)))
              have HO := hide (Box.new wr 26 #[.slice o.A o.ps.length o.c, .slice o.Y o.ys.length o.yc])
              replace HLI := hide (HLI.out.call B1)
              clear B1
              generalize wr.alloc (.cells #[.slice o.A o.ps.length o.c, .slice o.Y o.ys.length o.yc] 26) = wa at *
              generalize wr.heap.size = Z at *
              clear hc0 hc1
              have y0 := HO.out.cell 0
              simp only [List.getElem?_toArray, List.getElem?_cons_zero, List.getElem?_cons_succ] at y0
              have hol := HO.out.lt
              go_wp2_with fail
              clear y0 hol HO
              generalize hU : foldS ((j : Int) + 1) k 0 (o.ps.map SV.d) (d, rs.map RV.zs) = U at *
              have HU := hide (show U = foldS ((j : Int) + 1) k 0 ((o.ps.map SV.d).drop 0) (d, rs.map RV.zs) from hU.symm)
              clear hU
              go_loopw [60, 7] (fun i at_ wi => ∃ (m : Nat) (f : Int) (rs : List RV), m ≤ o.ps.length ∧ i = .int .i64 m ∧ at_ = .int .i64 f ∧ U = foldS ((j : Int) + 1) k m ((o.ps.map SV.d).drop m) (f, rs.map RV.zs) ∧ Shp l (rs.map RV.zs) ∧ 0 ≤ f ∧ f ≤ 4104 + 2000 * j + 490 * k + 60 * m ∧ LI w X A1 c1 rs E ec es wi) (fun i _ _ => o.ps.length - (intOf i).toNat)
              case atStart => exact ⟨0, d, rs, Nat.zero_le _, rfl, rfl, HU.out, HSH.out, by omega, by omega, HLI.out⟩
              case round =>
                clear HU HSH HLI
                obtain ⟨m, f, rs, hm, rfl, rfl, hu, hsh, hf0, hf1, hli⟩ := hrel
                have HLI := hide hli
                have HSH := hide hsh
                by_cases hlm : m < o.ps.length
                · obtain ⟨b2, off2, hPA, hb2, hc⟩ := (HRO.out.1.below hli.b).row secC_len (by decide) hlm
                  have hc0 := hc 0 _ rfl
                  have hc1 := hc 1 _ rfl
                  have hc2 := hc 2 _ rfl
                  have hc3 := hc 3 _ rfl
                  have hc4 := hc 4 _ rfl
                  have hc5 := hc 5 _ rfl
                  simp only [Nat.add_zero] at hc0
                  have HU := hide (hu.trans (foldS_drop (show m < (o.ps.map SV.d).length by simpa using hlm) m _))
                  have HSZ := hide (HAO.out.2 _ (List.getElem_mem hlm))
                  have hzl := (HFO.out _ (List.getElem_mem hlm)).2.1
                  have HRS := hide (step_bd (kd := (j : Int) + 1) (k := k) (i := m) (P := rs.map RV.zs) HSZ.out.1 HSZ.out.2 hf0)
                  clear hli hu hc
                  rw [List.getElem_map] at HU
                  rw [hPA]
                  clear hPA
                  generalize o.ps[m] = p at *
                  have B1 : Below wr.heap.size wr (wr.alloc (.cells #[.string p.nm, .int .i64 p.kd, .int .i64 p.al, .slice p.A p.zs.length p.c, .int .i64 p.sz, .slice p.F p.fs.length p.fc] 61)) := (by repeat (first | exact Below.refl _ _ | with_reducible assumption | (refine Below.drew ?_) | (refine Below.drewN ?_ _) | (refine Below.alloc ?_ (by simp; try omega) _) | (refine Below.setCell ?_ (by simp; try omega) _)))
                  replace HLI := hide (HLI.out.call B1)
                  have HS := hide (Box.new wr 61 #[.string p.nm, .int .i64 p.kd, .int .i64 p.al, .slice p.A p.zs.length p.c, .int .i64 p.sz, .slice p.F p.fs.length p.fc])
                  by_cases hkd : p.kd = (j : Int) + 1
                  · have e1 : (p.kd == (j : Int) + 1) = true := beq_iff_eq.2 hkd
                    have HKD := hide hkd
                    have HU2 := hide (show U = foldS ((j : Int) + 1) k (m + 1) ((o.ps.map SV.d).drop (m + 1)) (al f p.al + secSize p.d, setP (rs.map RV.zs) k m (al f p.al)) from by
                      rw [HU.out]
                      unfold stepS
                      rw [show decide (p.d.kd = (j : Int) + 1) = true from decide_eq_true hkd]
                      rfl)
                    clear hkd HU
                    go_wp2_with fail
                    clear e1 hc0 hc1 hc2 hc3 hc4 hc5 B1
                    generalize wr.alloc (.cells #[.string p.nm, .int .i64 p.kd, .int .i64 p.al, .slice p.A p.zs.length p.c, .int .i64 p.sz, .slice p.F p.fs.length p.fc] 61) = wa at *
                    generalize wr.heap.size = S at *
                    refine (aligned_any f p.al wa hf0 (by omega) HSZ.out.2).mono ?_
                    rintro e w' ⟨rfl, rfl⟩
                    obtain ⟨g1, g2⟩ := al_bd hf0 (show alignOk p.al = true from HSZ.out.2)
                    obtain ⟨q1, q2⟩ := HSZ.out.1
                    generalize al f p.al = v at *
                    obtain ⟨hp1, hp2⟩ := HSP.out _ HSH.out
                    rw [List.length_map] at hp1
                    rw [List.getElem_map] at hp2
                    obtain ⟨g, hgA, hgl, hfar, hfz, ⟨u, hcu⟩, hli2⟩ := HLI.out.put hp1 (i := m) (by omega) v
                    obtain ⟨pb, poff, hPP, hpb, hrow⟩ := HLI.out.hrs.rd.at hp1
                    have HLI2 := hide hli2
                    have HS2 := hide (BMake.box_setFar (g := g) (i := m) (u := .int .i64 v) HS.out (hfar _ _ _ HS.out (by decide)))
                    have HMP := hide (map_setP rs k m v hp1)
                    have HSH2 := hide (shp_set HSH.out k m v)
                    have x0 := HLI.out.x.cell 0
                    simp only [List.getElem?_toArray, List.getElem?_cons_zero] at x0
                    have hxl := HLI.out.x.lt
                    rw [hPP] at x0
                    rw [hgA, hp2] at hrow
                    have hmi : m < o.ps.length := hlm
                    clear hli2 hgA hp2 hPP HLI hfar HSH
                    generalize rs.set k { rs[k] with zs := rs[k].zs.set m v } = rs2 at *
                    have s0 := HS2.out.cell 0
                    have s1 := HS2.out.cell 1
                    have s2 := HS2.out.cell 2
                    have s3 := HS2.out.cell 3
                    have s4 := HS2.out.cell 4
                    have s5 := HS2.out.cell 5
                    simp only [List.getElem?_toArray, List.getElem?_cons_zero, List.getElem?_cons_succ] at s0 s1 s2 s3 s4 s5
                    have hsl := HS2.out.lt
                    go_wp2_with fail
                    refine (sectionSize_any p _ (by unfold maxLen; omega)).mono ?_
                    rintro e w3 ⟨rfl, b3⟩
                    replace HLI2 := hide (HLI2.out.call b3)
                    have hwr : IntKind.i64.wrap (v + secSize p.d) = v + secSize p.d := IntWalk.i64_in _ (by omega)
                    generalize secSize p.d = z at *
                    clear s0 s1 s2 s3 s4 s5 hsl HS2 b3 hrow x0 hxl hcu hfz
                    go_wp2_with fail
                    refine ⟨⟨m + 1, v + z, rs2, by omega, by go_num, rfl, by rw [HMP.out]; exact HU2.out, by rw [HMP.out]; exact HSH2.out, by omega, by omega, HLI2.out⟩, by simp [intOf]; omega⟩
                  · have e1 : (p.kd == (j : Int) + 1) = false := beq_eq_false_iff_ne.2 hkd
                    have HU2 := hide (show U = foldS ((j : Int) + 1) k (m + 1) ((o.ps.map SV.d).drop (m + 1)) (f, rs.map RV.zs) from by
                      rw [HU.out]
                      unfold stepS
                      rw [show decide (p.d.kd = (j : Int) + 1) = false from decide_eq_false hkd]
                      rfl)
                    clear hkd HU
                    go_wp2_with fail
                    refine ⟨⟨m + 1, f, rs, by omega, by go_num, rfl, HU2.out, HSH.out, hf0, by omega, HLI.out⟩, by simp [intOf]; omega⟩
                · obtain rfl : m = o.ps.length := by omega
                  have HT2 := hide (show T = foldO ((j : Int) + 1) (k + 1) (l.drop (k + 1)) (f, rs.map RV.zs) from by
                    have hu2 : U = (f, rs.map RV.zs) := by
                      rw [hu, List.drop_of_length_le (by simp)]
                      rfl
                    rw [HT.out, hu2])
                  clear hu hli hsh HT
                  go_wp2_with fail
                  refine ⟨⟨k + 1, f, rs, by omega, by go_num, rfl, HT2.out, HSH.out, hf0, by omega, HLI.out⟩, by simp [intOf]; omega⟩
            · obtain rfl : k = os.length := by omega
              have HT2 := hide (show T = (d, rs.map RV.zs) from by
                rw [ht, List.drop_of_length_le (by rw [← HLL.out]; simp)]
                rfl)
              have HLW := hide (show ∀ p ∈ es, ∀ k, blk p.A p.c = some k → k < wr.heap.size from hli.hes.lt)
              have HLR := hide (show ∀ p ∈ rs, ∀ k, blk p.A p.c = some k → k < wr.heap.size from hli.hrs.lt)
              have hlow : w.heap.size ≤ wr.heap.size := hli.b.size
              clear ht hli hsh
              have b1 : Below wr.heap.size wr (wr.alloc (.cells #[.int .i64 b, .int .i64 d] 3)) := (by repeat (first | exact Below.refl _ _ | with_reducible assumption | (refine Below.drew ?_) | (refine Below.drewN ?_ _) | (refine Below.alloc ?_ (by simp; try omega) _) | (refine Below.setCell ?_ (by simp; try omega) _)))
              have b2 : Below (wr.alloc (.cells #[.int .i64 b, .int .i64 d] 3)).heap.size (wr.alloc (.cells #[.int .i64 b, .int .i64 d] 3)) ((wr.alloc (.cells #[.int .i64 b, .int .i64 d] 3)).alloc (.cells #[.slice (some ⟨wr.heap.size, 0, none⟩) 2 2] 89)) := (by repeat (first | exact Below.refl _ _ | with_reducible assumption | (refine Below.drew ?_) | (refine Below.drewN ?_ _) | (refine Below.alloc ?_ (by simp; try omega) _) | (refine Below.setCell ?_ (by simp; try omega) _)))
              have HNW := hide (show RwR ((wr.alloc (.cells #[.int .i64 b, .int .i64 d] 3)).alloc (.cells #[.slice (some ⟨wr.heap.size, 0, none⟩) 2 2] 89)) w.heap.size ⟨some ⟨wr.heap.size, 0, none⟩, 2, [b, d]⟩ from by
                have h := World.ownsRow_lit (base := wr.heap.size) (e := 3) (size := 1) wr #[.int .i64 b, .int .i64 d] 2 (Nat.le_refl _) (by unfold maxLen; omega) rfl
                exact ((Row.own h).down hlow).call b2)
              have HLIT := hide (rd_lit (wr.alloc (.cells #[.int .i64 b, .int .i64 d] 3)) #[.slice (some ⟨wr.heap.size, 0, none⟩) 2 2] 89 _ rfl)
              have x1 := HLI.out.x.cell 1
              simp only [List.getElem?_toArray, List.getElem?_cons_zero, List.getElem?_cons_succ] at x1
              have hxl := HLI.out.x.lt
              have HLI2 := hide ((HLI.out.call b1).call b2)
              clear HLI b1 b2
              go_wp2_with (at_builtin; refine wpList_app ((wr.alloc (.cells #[.int .i64 b, .int .i64 d] 3)).alloc (.cells #[.slice (some ⟨wr.heap.size, 0, none⟩) 2 2] 89)) rfl (.tmp 88) (.tmp 92) 82 rfl 89 i0 (.slice none 0 0) 1 24 Tryz.underlying82 HI.out.1 HI.out.2.1 HI.out.2.2.1 HI.out.2.2.2 rfl (by decide) w.heap.size E es.length ec (cellsOf rowC es) rfl HLI2.out.hes.1 ?hb (some ⟨wr.heap.size + 1, 0, none⟩) 1 1 [.slice (some ⟨wr.heap.size, 0, none⟩) 2 2] rfl (by have h := HLIT.out; rw [World.size_alloc] at h; exact h) rfl (fun h => by cases h) ?o1 ?n1 ?n2 ?_)
              case hb =>
                have h := HLI2.out.b.size
                simp only [World.size_alloc] at h
                exact h
              case o1 => rfl
              case n1 => unfold maxLen; omega
              case n2 => omega
              intro E2 n2 c2 w3 hn o3 g3 k3
              have HXB := hide (HLI2.out.x.grown g3 (HLI2.out.hes.1.box HLI2.out.x (by decide)))
              have HNE := hide (LI.snoc (N := wr.heap.size) HLI2.out HNW.out HLW.out HLR.out (fun k hk => by
                unfold blk at hk
                split at hk
                · cases hk
                · injection hk with hk
                  exact Nat.le_of_eq hk) hn (by simpa [rowC] using o3) g3 (fun k hk => by have h := k3 k hk; simpa using h))
              subst hn
              clear o3 g3 k3 x1 hxl HLI2 HNW HLIT
              have x1 := HXB.out.cell 1
              simp only [List.getElem?_toArray, List.getElem?_cons_zero, List.getElem?_cons_succ] at x1
              have hxl := HXB.out.lt
              have xf1 := HXB.out.frozen 1
              have hwk : IntKind.i64.wrap ((j : Int) + 1 + 1) = (j : Int) + 1 + 1 := IntWalk.i64_in _ (by omega)
              go_wp2_with fail
              go_roundw
              case rel => exact ⟨j + 1, d, rs, E2, c2, es ++ [⟨some ⟨wr.heap.size, 0, none⟩, 2, [b, d]⟩], by omega, by simp, rfl, by rw [HLAY.out, HT2.out], HSH.out, hd0, by omega, by simp [HES.out], .inr ⟨b, by
                rw [List.map_append, List.getD_eq_getElem?_getD, List.getElem?_append_right (by have := HES.out; simp; omega)]
                simp [HES.out]⟩, HNE.out⟩
              case measure => simp [intOf]; omega
        · obtain rfl : j = 3 := by omega
          have HL3 := hide (show lay l base = (a, rs.map RV.zs) from hlay)
          have HE3 := hide (show ∃ x, (es.map RV.zs).getD 2 [] = [x, a] from by
            rcases HEND.out with h | h
            · cases h
            · exact h)
          clear hlay HEND hli
          have x0 := HLI.out.x.cell 0
          have x1 := HLI.out.x.cell 1
          have y0 := HLI.out.r.cell 0
          have y1 := HLI.out.r.cell 1
          have yf0 := HLI.out.r.frozen 0
          have yf1 := HLI.out.r.frozen 1
          have kk := (HLI.out.r.set 0 (.slice A1 rs.length c1)).set 1 (.slice E es.length ec)
          have k0 := kk.cell 0
          have k1 := kk.cell 1
          simp only [List.setIfInBounds_toArray, List.set_cons_zero, List.set_cons_succ, List.getElem?_toArray, List.getElem?_cons_zero, List.getElem?_cons_succ] at k0 k1 x0 x1 y0 y1
          clear kk
          have hxl := HLI.out.x.lt
          have hrl := HLI.out.r.lt
          have HFIN := hide (show LayV l base w (.returned (.tuple #[.agg #[.slice A1 rs.length c1, .slice E es.length ec], .bool true])) ((wr.setCell ⟨w.heap.size, 0, none⟩ (.slice A1 rs.length c1)).setCell ⟨w.heap.size, 1, none⟩ (.slice E es.length ec)) from by
            have r1 := HLI.out.r.set 0 (.slice A1 rs.length c1)
            refine ⟨A1, c1, rs, E, ec, es, by rw [HV.out], fun _ => ⟨by rw [HL3.out], HES.out, by rw [HL3.out]; exact HE3.out⟩, ?_, ?_, two_below (Y := w.heap.size) HLI.out.b (Nat.le_refl _) _ _⟩
            · exact ((HLI.out.hrs.set HLI.out.r (by decide) (by decide) 0 _).set r1 (by decide) (by decide) 1 _).rd
            · exact ((HLI.out.hes.set HLI.out.r (by decide) (by decide) 0 _).set r1 (by decide) (by decide) 1 _).rd)
          go_wp2_with fail
          (try simp only [Exit.inBlock, Exit.then])
          exact bodyPost_ret (v := .tuple #[.agg #[.slice A1 rs.length c1, .slice E es.length ec], .bool true]) (by simp [results, Tryz.results52, go_sem, k0, k1]) rfl HFIN.out
end Go.Proofs.YtepoiphmmjfbdaaGreatDoor.CLayout
/- namesMissing. -/
namespace Go.Proofs.YtepoiphmmjfbdaaGreatDoor.CMiss
set_option maxRecDepth 200000
open Go.ChangeShapes Go.WideShapes Go.ChangeAt Go.RowKit Kit CCode CName CFixups CSymbols PObj BObj CGlobalOf BStore BList PLink CFind CSorted CNames
theorem missS_snoc (l : List OD) (a : List YD) (y : YD) : missS l (a ++ [y]) = missS l a ++ (bif isMiss l y then [y.1] else []) := by
  unfold missS
  rw [List.filter_append, List.map_append]
  cases h : isMiss l y <;> simp [h]
theorem miss_take (l m : List OD) (k : Nat) (h : k < m.length) : (m.take (k + 1)).flatMap (fun d => missS l d.ys) = (m.take k).flatMap (fun d => missS l d.ys) ++ missS l m[k].ys := by
  rw [take_succ h, List.flatMap_append]
  simp
set_option maxHeartbeats 4000000 in
theorem namesMissing_any (A : Option Addr) (os : List OV) (c : Nat) (w : World) (hr : RdOs w w.heap.size A os) (hs : Small os) :
    Calls Tryz.prog 54 #[.slice A os.length c] w (RetN (srtN (miss (os.map OV.d))) w) := by
  obtain ⟨i0, hi1, hi2, hi3, hi4⟩ := info_parts infoStr
  have HI := hide (And.intro hi1 (And.intro hi2 (And.intro hi3 hi4)))
  clear hi1 hi2 hi3 hi4
  have HLN := hide (show Lens os from ⟨by have := hs.1; omega, fun o ho => by have := hs.2 o ho; omega⟩)
  obtain ⟨hs1, hs2⟩ := hs
  have HY := hide hs2
  have HR := hide hr
  clear hs2 hr
  have HB := hide (show Below w.heap.size w (w.alloc (.cells #[] 9)) from (by repeat (first | exact Below.refl _ _ | with_reducible assumption | (refine Below.drew ?_) | (refine Below.drewN ?_ _) | (refine Below.alloc ?_ (by simp; try omega) _) | (refine Below.setCell ?_ (by simp; try omega) _))))
  go_enter Tryz.func54, Tryz.ntmps54
  go_wp2_with fail
  generalize w.alloc (.cells #[] 9) = w0 at *
  generalize hLL : os.map OV.d = l at *
  have HLL := hide hLL
  clear hLL
  go_loopw [3, 13] (fun s i wi => ∃ (k : Nat) (A1 : Option Addr) (c1 : Nat) (xs : List ByteArray), k ≤ os.length ∧ s = .slice A1 xs.length c1 ∧ i = .int .i64 k ∧ xs = (l.take k).flatMap (fun d => missS l d.ys) ∧ xs.length ≤ 12 * k ∧ Row wi w.heap.size 9 1 A1 xs.length c1 (nmC xs) ∧ Below w.heap.size w wi) (fun _ i _ => os.length - (intOf i).toNat)
  case atStart => exact ⟨0, _, 0, [], Nat.zero_le _, rfl, rfl, rfl, Nat.le_refl _, Row.empty _ _ _ _ _, HB.out⟩
  case round =>
    clear HB
    obtain ⟨k, A1, c1, xs, hk, rfl, rfl, hxy, hx1, hrow, hb⟩ := hrel
    have HX := hide hrow
    have HB := hide hb
    by_cases hlt : k < os.length
    · obtain ⟨bb, off, hA, hbb, hc0, hc1⟩ := (HR.out.below hb).at hlt
      have hll : k < l.length := by rw [← HLL.out, List.length_map]; exact hlt
      have HXY := hide (show (l.take (k + 1)).flatMap (fun d => missS l d.ys) = xs ++ missS l os[k].ys from by
        rw [miss_take l l k hll, ← hxy]
        congr 2
        have := HLL.out
        subst this
        simp [OV.d])
      have HRO := hide (HR.out.2 _ (List.getElem_mem hlt)).2
      have hyl := HY.out _ (List.getElem_mem hlt)
      clear hb hrow hxy
      subst hA
      generalize os[k] = o at *
      go_wp2_with fail
      have B1 : Below wr.heap.size wr (wr.alloc (.cells #[.slice o.A o.ps.length o.c, .slice o.Y o.ys.length o.yc] 26)) := (by repeat (first | exact Below.refl _ _ | with_reducible assumption | (refine Below.drew ?_) | (refine Below.drewN ?_ _) | (refine Below.alloc ?_ (by simp; try omega) _) | (refine Below.setCell ?_ (by simp; try omega) _)))
      have HO := hide (Box.new wr 26 #[.slice o.A o.ps.length o.c, .slice o.Y o.ys.length o.yc])
      replace HB := hide (HB.out.trans (B1.mono HB.out.size))
      replace HX := hide (HX.out.call B1)
      clear B1
      generalize wr.alloc (.cells #[.slice o.A o.ps.length o.c, .slice o.Y o.ys.length o.yc] 26) = wa at *
      generalize wr.heap.size = Z at *
      clear hc0 hc1
      have y1 := HO.out.cell 1
      simp only [List.getElem?_toArray, List.getElem?_cons_zero, List.getElem?_cons_succ] at y1
      have hol := HO.out.lt
      go_wp2_with fail
      clear y1 hol HO
      generalize hx0 : xs = x0 at *
      clear hx0
      go_loopw [3, 20] (fun s i wi => ∃ (j : Nat) (A1 : Option Addr) (c1 : Nat) (xs : List ByteArray), j ≤ o.ys.length ∧ s = .slice A1 xs.length c1 ∧ i = .int .i64 j ∧ xs = x0 ++ missS l (o.ys.take j) ∧ xs.length ≤ 12 * k + j ∧ Row wi w.heap.size 9 1 A1 xs.length c1 (nmC xs) ∧ Below w.heap.size w wi) (fun _ i _ => o.ys.length - (intOf i).toNat)
      case atStart => exact ⟨0, A1, c1, x0, Nat.zero_le _, rfl, rfl, (List.append_nil _).symm, by omega, HX.out, HB.out⟩
      case round =>
        clear HX HB
        obtain ⟨j, A1, c1, xs, hj, rfl, rfl, hxy, hx1, hrow, hb⟩ := hrel
        have HX := hide hrow
        have HB := hide hb
        by_cases hlj : j < o.ys.length
        · obtain ⟨b2, off2, hYA, hb2, hc⟩ := (HRO.out.below hb).row symbolC_len (by decide) hlj
          have hc0 := hc 0 _ rfl
          have hc1 := hc 1 _ rfl
          have hc2 := hc 2 _ rfl
          have hc3 := hc 3 _ rfl
          simp only [Nat.add_zero] at hc0
          have HST := hide (show x0 ++ missS l (o.ys.take (j + 1)) = xs ++ (bif isMiss l o.ys[j] then [o.ys[j].1] else []) from by
            rw [take_succ hlj, missS_snoc, ← List.append_assoc, ← hxy])
          clear hb hrow hxy hc
          rw [hYA]
          clear hYA
          generalize o.ys[j] = z at *
          obtain ⟨z1, z2, z3, z4⟩ := z
          simp only at hc0 hc1 hc2 hc3 HST
          go_wp2_with fail
          have B1 : Below wr.heap.size wr (wr.alloc (.cells #[.string z1, .int .i64 z2, .int .i64 z3, .int .i64 z4] 67)) := (by repeat (first | exact Below.refl _ _ | with_reducible assumption | (refine Below.drew ?_) | (refine Below.drewN ?_ _) | (refine Below.alloc ?_ (by simp; try omega) _) | (refine Below.setCell ?_ (by simp; try omega) _)))
          have HZ := hide (Box.new wr 67 #[.string z1, .int .i64 z2, .int .i64 z3, .int .i64 z4])
          replace HB := hide (HB.out.trans (B1.mono HB.out.size))
          replace HX := hide (HX.out.call B1)
          clear B1
          clear hc0 hc1 hc2 hc3
          generalize wr.alloc (.cells #[.string z1, .int .i64 z2, .int .i64 z3, .int .i64 z4] 67) = wz at *
          generalize wr.heap.size = S at *
          refine (findName_any (some ⟨bb, off, none⟩) os c z1 wz ((HR.out.below HB.out).more HB.out.size) HLN.out).mono ?_
          rintro e w5 ⟨rfl, b5⟩
          replace HB := hide (HB.out.trans (b5.mono HB.out.size))
          replace HZ := hide (HZ.out.call b5)
          replace HX := hide (HX.out.call b5)
          clear b5
          have HM := hide (show isMiss l (z1, z2, z3, z4) = ((z2 == 1) && (z3 == -1) && !(findN (os.map OV.d) z1).isSome) from by
            rw [HLL.out]
            simp only [isMiss]
            cases findN l z1 <;> rfl)
          simp only [givV]
          generalize findN (os.map OV.d) z1 = r at *
          have y0 := HZ.out.cell 0
          have y1 := HZ.out.cell 1
          have y2 := HZ.out.cell 2
          simp only [List.getElem?_toArray, List.getElem?_cons_zero, List.getElem?_cons_succ] at y0 y1 y2
          have hzl := HZ.out.lt
          have bg : Below w5.heap.size w5 (w5.alloc (.cells #[.int .i64 (gin r), .int .i64 (gat r)] 79)) := (by repeat (first | exact Below.refl _ _ | with_reducible assumption | (refine Below.drew ?_) | (refine Below.drewN ?_ _) | (refine Below.alloc ?_ (by simp; try omega) _) | (refine Below.setCell ?_ (by simp; try omega) _)))
          have HBG := hide (HB.out.trans (bg.mono HB.out.size))
          have HXG := hide (HX.out.call bg)
          cases q1 : (z2 == 1)
          · rw [q1, Bool.false_and, Bool.false_and] at HM
            rw [HM.out, cond_false, List.append_nil] at HST
            clear HM bg
            go_wp2_with fail
            refine ⟨⟨j + 1, A1, c1, xs, by omega, rfl, by go_num, HST.out.symm, by omega, HXG.out, HBG.out⟩, by simp [intOf]; omega⟩
          cases q2 : (z3 == -1)
          · rw [q1, q2, Bool.and_false, Bool.false_and] at HM
            rw [HM.out, cond_false, List.append_nil] at HST
            clear HM bg
            go_wp2_with fail
            refine ⟨⟨j + 1, A1, c1, xs, by omega, rfl, by go_num, HST.out.symm, by omega, HXG.out, HBG.out⟩, by simp [intOf]; omega⟩
          cases q3 : r.isSome
          · rw [q1, q2, q3] at HM
            rw [HM.out] at HST
            have HST2 := hide (show x0 ++ missS l (o.ys.take (j + 1)) = xs ++ [z1] from HST.out)
            clear HM HST bg
            go_wp2_with (at_builtin; refine wpList_app ((w5.alloc (.cells #[.int .i64 (gin r), .int .i64 (gat r)] 79)).alloc (.cells #[.string z1] 9)) rfl (.tmp 43) (.tmp 46) 28 rfl 9 i0 (.string ByteArray.empty) 1 16 Tryz.underlying28 HI.out.1 HI.out.2.1 HI.out.2.2.1 HI.out.2.2.2 rfl (by decide) w.heap.size A1 xs.length c1 (nmC xs) rfl (HXG.out.alloc _) ?hb (some ⟨w5.heap.size + 1, 0, none⟩) 1 1 [.string z1] rfl (by have h := rd_lit (w5.alloc (.cells #[.int .i64 (gin r), .int .i64 (gat r)] 79)) #[.string z1] 9 _ rfl; rw [World.size_alloc] at h; exact h) rfl (fun h => by cases h) ?o1 ?n1 ?n2 ?_)
            case hb => have h := (HBG.out.alloc HBG.out.size (.cells #[.string z1] 9)).size; simpa using h
            case o1 => exact one_str z1
            case n1 => unfold maxLen; omega
            case n2 => omega
            intro A3 n3 c3 w6 hn o3 g3 k3
            have HB6 := hide ((HBG.out.alloc HBG.out.size (.cells #[.string z1] 9)).grown g3 (HBG.out.alloc HBG.out.size (.cells #[.string z1] 9)).size (fun j hj => (HXG.out.lt j hj).1))
            have HX6 := hide (show Row w6 w.heap.size 9 1 A3 (xs ++ [z1]).length c3 (nmC (xs ++ [z1])) from by
              subst hn
              rw [List.length_append, ← strs_snoc]
              simpa using o3)
            subst hn
            clear o3 g3 k3
            go_wp2_with fail
            refine ⟨⟨j + 1, A3, c3, xs ++ [z1], by omega, by simp, by go_num, HST2.out.symm, by simp; omega, HX6.out, HB6.out⟩, by simp [intOf]; omega⟩
          · rw [q1, q2, q3] at HM
            rw [HM.out] at HST
            have HST2 := hide (show x0 ++ missS l (o.ys.take (j + 1)) = xs from HST.out.trans (List.append_nil _))
            clear HM HST bg
            go_wp2_with fail
            refine ⟨⟨j + 1, A1, c1, xs, by omega, rfl, by go_num, HST2.out.symm, by omega, HXG.out, HBG.out⟩, by simp [intOf]; omega⟩
        · have hje : j = o.ys.length := by omega
          subst hje
          have HQ2 := hide (show xs = (l.take (k + 1)).flatMap (fun d => missS l d.ys) from by
            rw [HXY.out, hxy, List.take_length])
          clear hxy hb hrow HXY
          go_wp2_with fail
          refine ⟨⟨k + 1, A1, c1, xs, by omega, rfl, by go_num, HQ2.out, by omega, HX.out, HB.out⟩, by simp [intOf]; omega⟩
    · have hke : k = os.length := by omega
      subst hke
      have HTW := hide (show miss l = xs from by
        rw [miss, hxy, List.take_of_length_le (show l.length ≤ os.length by rw [← HLL.out]; simp)])
      have HQ := hide (sorted_any xs A1 c1 _ wr hrow (by omega))
      clear hxy hrow hb
      generalize hzs : srtN xs = zs at HQ
      have HZS := hide hzs
      clear hzs
      go_wp2_with fail
      refine HQ.out.mono ?_
      rintro e w4 ⟨A4, c4, rfl, r4, b4⟩
      have HF := hide (And.intro (r4.down HB.out.size) (HB.out.trans (b4.mono HB.out.size)))
      clear r4 b4 HQ
      go_wp2_with fail
      go_ret
      show RetN (srtN (miss l)) w _ _
      rw [HTW.out, HZS.out]
      exact ⟨A4, c4, rfl, HF.out.1, HF.out.2⟩
end Go.Proofs.YtepoiphmmjfbdaaGreatDoor.CMiss
/- A region that draws its order, taken operation by operation: what only computes at once; loads under a condition on the world that all keep but those of T; those of T come up alone. -/
namespace Go.Proofs.YtepoiphmmjfbdaaGreatDoor.Rv
set_option maxRecDepth 200000
open Go Reg
section
variable {P : Program} {ops : Array Oper} {Q : Exit → Act → World → Prop} {md : Region.Mode} {S : World → Prop} {T : Nat → Bool}
/-- Whatever order is picked from here on, and S stands over every operation that is carried out, but for those of T. -/
def wpAnyV (P : Program) (md : Region.Mode) (ops : Array Oper) (Q : Exit → Act → World → Prop) (S : World → Prop) (T : Nat → Bool) : Nat → Array Bool → Act → World → Prop
  | 0, listed, a, w => Region.ready md ops listed = [] ∧ Q .normal a w
  | fuel + 1, listed, a, w =>
    (Region.ready md ops listed = [] → Q .normal a w) ∧
    ∀ i ∈ Region.ready md ops listed, wpOp P ops Q i (fun a' w' => (T i = false → S w → S w') ∧ wpAnyV P md ops Q S T fuel (listed.setIfInBounds i true) a' w') a w
theorem wpAny_of_V : ∀ (fuel : Nat) (listed : Array Bool) (a : Act) (w : World), wpAnyV P md ops Q S T fuel listed a w → wpAny P md ops Q fuel listed a w
  | 0, _, _, _, h => h
  | fuel + 1, _, _, _, h => ⟨h.1, fun i hi => wpOp_mono (fun a' w' h' => wpAny_of_V fuel _ a' w' h'.2) (h.2 i hi)⟩
/-- All that waits for number i, directly or through others (n rounds). -/
def cl (md : Region.Mode) (ops : Array Oper) (listed : Array Bool) (i : Nat) : Nat → List Nat
  | 0 => (List.range ops.size).filter fun j => !listed.getD j true && (match ops[j]? with | some o => waits md o i | none => false)
  | n + 1 => (List.range ops.size).filter fun j => !listed.getD j true && (match ops[j]? with | some o => waits md o i || o.after.any (fun e => Region.binds md e && (cl md ops listed i n).contains e.on) | none => false)
/-- No member of C is taken while number i is not. -/
def closedB (md : Region.Mode) (ops : Array Oper) (listed : Array Bool) (i : Nat) (C : List Nat) (T : Nat → Bool) : Bool :=
  (C.all fun j => j != i && !listed.getD j true && (match ops[j]? with | some o => waits md o i || o.after.any (fun e => Region.binds md e && C.contains e.on) | none => false)) &&
  (List.range ops.size).all fun j => !T j || j == i || C.contains j
theorem closed_spec {i : Nat} {listed : Array Bool} {C : List Nat} (h : closedB md ops listed i C T = true) :
    (∀ j ∈ C, j ≠ i ∧ listed.getD j true = false ∧ ∃ o, ops[j]? = some o ∧ ∃ e ∈ o.after, Region.binds md e = true ∧ (e.on = i ∨ e.on ∈ C)) ∧ (∀ (j : Nat) (o : Oper), ops[j]? = some o → T j = true → j ≠ i → j ∈ C) := by
  unfold closedB at h
  rw [Bool.and_eq_true] at h
  obtain ⟨h1, h2⟩ := h
  refine ⟨fun j hj => ?_, fun j o ho ht hne => ?_⟩
  · have := List.all_eq_true.1 h1 j hj
    simp only [Bool.and_eq_true, bne_iff_ne, ne_eq, Bool.not_eq_true'] at this
    obtain ⟨⟨a, b⟩, c⟩ := this
    refine ⟨a, b, ?_⟩
    split at c
    · rename_i o ho
      refine ⟨o, ho, ?_⟩
      rcases Bool.or_eq_true_iff.1 c with c | c
      · unfold waits at c
        rw [Array.any_eq_true] at c
        obtain ⟨k, hk, he⟩ := c
        simp only [Bool.and_eq_true, beq_iff_eq] at he
        exact ⟨_, Array.getElem_mem hk, he.1, .inl he.2⟩
      · rw [Array.any_eq_true] at c
        obtain ⟨k, hk, he⟩ := c
        simp only [Bool.and_eq_true, List.contains_iff_mem] at he
        exact ⟨_, Array.getElem_mem hk, he.1, .inr he.2⟩
    · cases c
  · have hj : j < ops.size := (Array.getElem?_eq_some_iff.1 ho).1
    have := List.all_eq_true.1 h2 j (List.mem_range.2 hj)
    simp only [Bool.or_eq_true, Bool.not_eq_true', beq_iff_eq, List.contains_iff_mem] at this
    rcases this with (this | this) | this
    · rw [ht] at this
      cases this
    · exact absurd this hne
    · exact this
theorem first {i : Nat} {oi : Oper} {v : Value} {C : List Nat} {R : World → Prop} (hi : ops[i]? = some oi) (hsel : ∀ (j : Nat) (o : Oper) cs b, ops[j]? = some o → o.op ≠ .select cs b)
    (hQ : ∀ c a w, Q (.panic c) (a.put oi.dst v) w → Q (.panic c) a w) (hR : (∀ w, R w) ∨ ((∀ w, R w ↔ S w) ∧ ∀ (j : Nat) (o : Oper), ops[j]? = some o → T j = true → j ≠ i → j ∈ C)) :
    ∀ (fuel : Nat) (listed : Array Bool) (a : Act) (w : World),
      (∀ j ∈ C, j ≠ i ∧ listed.getD j true = false ∧ ∃ o, ops[j]? = some o ∧ ∃ e ∈ o.after, Region.binds md e = true ∧ (e.on = i ∨ e.on ∈ C)) →
      (∀ j oj, ops[j]? = some oj → j ≠ i → listed.getD j true = false → (∀ e ∈ oj.after, Region.binds md e = true → e.on ≠ i) → oi.apart ops oj = true) →
      i ∈ Region.ready md ops listed → YieldsIf P ops R oi v a → R w →
      wpAnyV P md ops Q S T fuel (listed.setIfInBounds i true) (a.put oi.dst v) w → wpAnyV P md ops Q S T (fuel + 1) listed a w := by
  intro fuel
  induction fuel with
  | zero =>
    intro listed a w _ _ hr hy hS H
    refine ⟨fun h => (by rw [h] at hr; cases hr), fun j hj => ?_⟩
    by_cases hji : j = i
    · subst hji
      exact hy.wpOp hi hS ⟨fun _ h => h, H⟩
    · have := ready_mono hj hji
      rw [H.1] at this
      cases this
  | succ fuel ih =>
    intro listed a w hC hfree hr hy hS H
    refine ⟨fun h => (by rw [h] at hr; cases hr), fun j hj => ?_⟩
    by_cases hji : j = i
    · subst hji
      exact hy.wpOp hi hS ⟨fun _ h => h, H⟩
    · have h1 := H.2 j (ready_mono hj hji)
      obtain ⟨hjun, oj, hoj, hall⟩ := mem_ready.1 hj
      have hun : ∀ k, listed.getD k true = false → ∀ e ∈ oj.after, Region.binds md e = true → e.on ≠ k := fun k h0 e he hb heq => by
        have h1 := hall e he hb
        rw [heq] at h1
        rcases Nat.lt_or_ge k listed.size with h' | h'
        · simp [h'] at h0 h1
          rw [h0] at h1
          cases h1
        · simp [Array.getElem?_eq_none h'] at h1
      have hnot : ∀ e ∈ oj.after, Region.binds md e = true → e.on ≠ i := hun i (mem_ready.1 hr).1
      have hjC : j ∉ C := fun hjc => by
        obtain ⟨_, _, o, ho, e, he, hb, hor⟩ := hC j hjc
        rw [hoj] at ho
        injection ho with ho
        subst ho
        rcases hor with hor | hor
        · exact hnot e he hb hor
        · exact hun _ (hC _ hor).2.1 e he hb rfl
      have h2 := wpOp_putIf hoj (hfree j oj hoj hji hjun hnot) (fun cs b => hsel i oi cs b hi) (fun cs b => hsel j oj cs b hoj) hQ hy h1
      have hfree' : ∀ k ok, ops[k]? = some ok → k ≠ i → (listed.setIfInBounds j true).getD k true = false →
          (∀ e ∈ ok.after, Region.binds md e = true → e.on ≠ i) → oi.apart ops ok = true := fun k ok hk hki hun hno => by
        refine hfree k ok hk hki ?_ hno
        by_cases hjk : j = k
        · subst hjk
          exact hjun
        · rw [getD_set_ne true hjk] at hun
          exact hun
      have hC' : ∀ k ∈ C, k ≠ i ∧ (listed.setIfInBounds j true).getD k true = false ∧ ∃ o, ops[k]? = some o ∧ ∃ e ∈ o.after, Region.binds md e = true ∧ (e.on = i ∨ e.on ∈ C) := fun k hk => by
        obtain ⟨a1, a2, a3⟩ := hC k hk
        refine ⟨a1, ?_, a3⟩
        have hjk : j ≠ k := by
          rintro rfl
          exact hjC hk
        rw [getD_set_ne true hjk]
        exact a2
      have hRk : ∀ w', (T j = false → S w → S w') → R w' := fun w' hk => by
        rcases hR with hR | ⟨hR, hT⟩
        · exact hR w'
        · have hTj : T j = false := by
            cases hT' : T j
            · rfl
            · exact absurd (hT j oj hoj hT' hji) hjC
          exact (hR w').2 (hk hTj ((hR w).1 hS))
      refine wpOp_mono (fun a' w' h3 => ⟨h3.2.1, ih (listed.setIfInBounds j true) a' w' hC' hfree' (ready_mono hr (Ne.symm hji)) h3.1 (hRk w' h3.2.1) ?_⟩) h2
      rw [Array.setIfInBounds_comm _ _ hji]
      exact h3.2.2
/-- A load (what reads the world): take it first, under S. -/
theorem take {i : Nat} {oi : Oper} {v : Value} {fuel : Nat} {listed : Array Bool} {a : Act} {w : World} (hi : ops[i]? = some oi)
    (hs : Region.noSelect ops = true) (hf : Region.free md ops listed i = true) (hr : (Region.ready md ops listed).contains i = true) (hT : closedB md ops listed i (cl md ops listed i 3) T = true)
    (hQ : ∀ c a w, Q (.panic c) (a.put oi.dst v) w → Q (.panic c) a w) (hy : YieldsIf P ops S oi v a) (hS : S w)
    (h : wpAnyV P md ops Q S T fuel (listed.setIfInBounds i true) (a.put oi.dst v) w) : wpAnyV P md ops Q S T (fuel + 1) listed a w :=
  first (R := S) hi (Region.noSelect_spec hs) hQ (.inr ⟨fun _ => Iff.rfl, (closed_spec hT).2⟩) fuel listed a w (closed_spec hT).1 (Region.free_spec hi hf) (by simpa using hr) hy hS h
/-- What only computes: take it first. -/
theorem comp {i : Nat} {oi : Oper} {v : Value} {fuel : Nat} {listed : Array Bool} {a : Act} {w : World} (hi : ops[i]? = some oi)
    (hs : Region.noSelect ops = true) (hf : Region.free md ops listed i = true) (hr : (Region.ready md ops listed).contains i = true)
    (hQ : ∀ c a w, Q (.panic c) (a.put oi.dst v) w → Q (.panic c) a w) (hy : YieldsIf P ops (fun _ => True) oi v a)
    (h : wpAnyV P md ops Q S T fuel (listed.setIfInBounds i true) (a.put oi.dst v) w) : wpAnyV P md ops Q S T (fuel + 1) listed a w :=
  first (R := fun _ => True) (C := []) hi (Region.noSelect_spec hs) hQ (.inl fun _ => trivial) fuel listed a w (fun _ h => by cases h) (Region.free_spec hi hf) (by simpa using hr) hy trivial h
/-- One alone may come up, and it is none of T: S is shown anew behind it. -/
theorem one {i : Nat} {o : Oper} {fuel : Nat} {listed : Array Bool} {a : Act} {w : World} (ho : ops[i]? = some o) (hr : Region.ready md ops listed = [i])
    (h : ∀ K : Act → World → Prop, Shut (∀ a w, S w → wpAnyV P md ops Q S T fuel (listed.setIfInBounds i true) a w → K a w) → if Region.wanted o (yielded ops a.tmps) = true then Oper.wp P o a w K Q else K (a.put o.dst undef) w) :
    wpAnyV P md ops Q S T (fuel + 1) listed a w :=
  ⟨fun h0 => (by rw [hr] at h0; cases h0), fun j hj => by
    rw [hr] at hj
    simp only [List.mem_singleton] at hj
    subst hj
    exact wpOp_step ho (fun K' hK => h K' (fun a w hS hW => hK a w ⟨fun _ _ => hS, hW⟩))⟩
/-- Two may come up, neither of T: the one or the other is carried out. -/
theorem two {i j : Nat} {oi oj : Oper} {fuel : Nat} {listed : Array Bool} {a : Act} {w : World} (hoi : ops[i]? = some oi) (hoj : ops[j]? = some oj) (hr : Region.ready md ops listed = [i, j])
    (h : ∀ K : Act → World → Prop, Shut (∀ a w, S w → wpAnyV P md ops Q S T fuel (listed.setIfInBounds i true) a w → K a w) → if Region.wanted oi (yielded ops a.tmps) = true then Oper.wp P oi a w K Q else K (a.put oi.dst undef) w)
    (h' : ∀ K : Act → World → Prop, Shut (∀ a w, S w → wpAnyV P md ops Q S T fuel (listed.setIfInBounds j true) a w → K a w) → if Region.wanted oj (yielded ops a.tmps) = true then Oper.wp P oj a w K Q else K (a.put oj.dst undef) w) :
    wpAnyV P md ops Q S T (fuel + 1) listed a w :=
  ⟨fun h0 => (by rw [hr] at h0; cases h0), fun k hk => by
    rw [hr] at hk
    simp only [List.mem_cons, List.not_mem_nil, or_false] at hk
    rcases hk with rfl | rfl
    · exact wpOp_step hoi (fun K' hK => h K' (fun a w hS hW => hK a w ⟨fun _ _ => hS, hW⟩))
    · exact wpOp_step hoj (fun K' hK => h' K' (fun a w hS hW => hK a w ⟨fun _ _ => hS, hW⟩))⟩
theorem done {listed : Array Bool} {a : Act} {w : World} (hr : Region.ready md ops listed = []) (h : Q .normal a w) : ∀ fuel, wpAnyV P md ops Q S T fuel listed a w
  | 0 => ⟨hr, h⟩
  | _ + 1 => ⟨fun _ => h, by rw [hr]; simp⟩
/-- The beginning. -/
theorem start {id : Nat} {a : Act} {w : World} (S : World → Prop) (T : Nat → Bool) (hm : P.follows .mixedOrders = true)
    (h : wpAnyV P .any ops Q S T ops.size (Array.replicate ops.size false) a w.drew) : (Code.region id ops true).wp P Q a w :=
  wp_region_any hm (wpAny_of_V _ _ _ _ h)
end
end Go.Proofs.YtepoiphmmjfbdaaGreatDoor.Rv
/- placeOf and symbolPlace: the places that symbols mean. -/
namespace Go.Proofs.YtepoiphmmjfbdaaGreatDoor.CPlaceL
set_option maxRecDepth 200000
open Go.ChangeShapes Go.WideShapes Go.ChangeAt Go.RowKit Kit CCode CName CFixups CSymbols PObj BObj PValid CGlobalOf CObjValid BStore BList PLink CFind
/-- A symbol's place can be told. -/
def PlOk (rs : List RV) (k : Nat) (y : YD) : Prop :=
  (y.2.2.1 = -2 ∨ (0 ≤ y.2.2.1 ∧ ∃ h : k < rs.length, ∃ h2 : y.2.2.1.toNat < (rs[k]).zs.length, 0 ≤ (rs[k]).zs[y.2.2.1.toNat] ∧ (rs[k]).zs[y.2.2.1.toNat] ≤ 20000)) ∧ 0 ≤ y.2.2.2 ∧ y.2.2.2 ≤ 60000
theorem getP_at {rs : List RV} {k i : Nat} (h : k < rs.length) (h2 : i < (rs[k]).zs.length) : getP (rs.map RV.zs) k i = (rs[k]).zs[i] := by
  unfold getP
  rw [List.getD_eq_getElem?_getD, List.getD_eq_getElem?_getD, List.getElem?_map, List.getElem?_eq_getElem h]
  simp [List.getElem?_eq_getElem h2]
set_option maxHeartbeats 4000000 in
theorem placeOf_any (PA : Option Addr) (rs : List RV) (pc : Nat) (EA : Option Addr) (m ec : Nat) (A : Option Addr) (os : List OV) (c k j : Nat) (w : World) (hP : RdRs w w.heap.size PA rs) (hr : RdOs w w.heap.size A os)
    (hk : k < os.length) (hj : j < (os[k]).ys.length) (hm : os.length ≤ 1048576 ∧ (os[k]).ys.length ≤ 1048576) (hp : PlOk rs k (os[k]).ys[j]) :
    Calls Tryz.prog 102 #[.agg #[.slice PA rs.length pc, .slice EA m ec], .slice A os.length c, .agg #[.int .i64 k, .int .i64 j]] w (Ret (.int .i64 (tgY (rs.map RV.zs) k (os[k]).ys[j])) w) := by
  obtain ⟨hm1, hm2⟩ := hm
  have B0 : Below w.heap.size w ((w.alloc (.cells #[.slice PA rs.length pc, .slice EA m ec] 84)).alloc (.cells #[.int .i64 k, .int .i64 j] 79)) := (by repeat (first | exact Below.refl _ _ | with_reducible assumption | (refine Below.drew ?_) | (refine Below.drewN ?_ _) | (refine Below.alloc ?_ (by simp; try omega) _) | (refine Below.setCell ?_ (by simp; try omega) _)))
  have HL := hide ((Box.new w 84 #[.slice PA rs.length pc, .slice EA m ec]).alloc (.cells #[.int .i64 k, .int .i64 j] 79))
  have HG0 := Box.new (w.alloc (.cells #[.slice PA rs.length pc, .slice EA m ec] 84)) 79 #[.int .i64 k, .int .i64 j]
  simp only [World.size_alloc] at HG0
  have HG := hide HG0
  have HB := hide B0
  have HRP := hide (hP.below B0)
  obtain ⟨b1, o1, hA, hb1, hc0, hc1⟩ := (hr.below B0).at hk
  obtain ⟨b2, o2, hY, hb2, hc⟩ := ((hr.2 _ (List.getElem_mem hk)).2.below B0).row symbolC_len (by decide) hj
  have hd0 := hc 0 _ rfl
  have hd1 := hc 1 _ rfl
  have hd2 := hc 2 _ rfl
  have hd3 := hc 3 _ rfl
  simp only [Nat.add_zero] at hd0
  have HPL := hide hp
  clear hP hr hc hp HG0 B0 hc0
  subst hA
  rw [hY] at hc1
  clear hY
  generalize (os[k]).ys[j] = z at *
  generalize (os[k]).ys.length = yn at *
  generalize (os[k]).yc = ycc at *
  obtain ⟨z1, z2, z3, z4⟩ := z
  simp only at hd0 hd1 hd2 hd3
  go_enter Tryz.func102, Tryz.ntmps102
  go_wp2_with fail
  generalize (w.alloc (.cells #[.slice PA rs.length pc, .slice EA m ec] 84)).alloc (.cells #[.int .i64 k, .int .i64 j] 79) = w0 at *
  have hN : w.heap.size < w.heap.size + 1 := by omega
  generalize w.heap.size + 1 = N at *
  have g0 := HG.out.cell 0
  have g1 := HG.out.cell 1
  simp only [List.getElem?_toArray, List.getElem?_cons_zero, List.getElem?_cons_succ] at g0 g1
  have Z0 : w0.cell? ⟨N, 0, none⟩ = some (.int .i64 k) ∧ w0.cell? ⟨N, 1, none⟩ = some (.int .i64 j) ∧ w0.cell? ⟨b1, o1 + k * 2 + 1, none⟩ = some (.slice (some ⟨b2, o2, none⟩) yn ycc) ∧ w0.cell? ⟨b2, o2 + j * 4, none⟩ = some (.string z1) ∧ w0.cell? ⟨b2, o2 + j * 4 + 1, none⟩ = some (.int .i64 z2) ∧ w0.cell? ⟨b2, o2 + j * 4 + 2, none⟩ = some (.int .i64 z3) ∧ w0.cell? ⟨b2, o2 + j * 4 + 3, none⟩ = some (.int .i64 z4) := ⟨g0, g1, hc1, hd0, hd1, hd2, hd3⟩
  refine Reg.startT (fun W => W.cell? ⟨N, 0, none⟩ = some (.int .i64 k) ∧ W.cell? ⟨N, 1, none⟩ = some (.int .i64 j) ∧ W.cell? ⟨b1, o1 + k * 2 + 1, none⟩ = some (.slice (some ⟨b2, o2, none⟩) yn ycc) ∧ W.cell? ⟨b2, o2 + j * 4, none⟩ = some (.string z1) ∧ W.cell? ⟨b2, o2 + j * 4 + 1, none⟩ = some (.int .i64 z2) ∧ W.cell? ⟨b2, o2 + j * 4 + 2, none⟩ = some (.int .i64 z3) ∧ W.cell? ⟨b2, o2 + j * 4 + 3, none⟩ = some (.int .i64 z4)) (fun j => j == 11) (by kernel_rfl) ?_
  have hHeld : w0.drew.cell? ⟨N, 0, none⟩ = some (.int .i64 k) ∧ w0.drew.cell? ⟨N, 1, none⟩ = some (.int .i64 j) ∧ w0.drew.cell? ⟨b1, o1 + k * 2 + 1, none⟩ = some (.slice (some ⟨b2, o2, none⟩) yn ycc) ∧ w0.drew.cell? ⟨b2, o2 + j * 4, none⟩ = some (.string z1) ∧ w0.drew.cell? ⟨b2, o2 + j * 4 + 1, none⟩ = some (.int .i64 z2) ∧ w0.drew.cell? ⟨b2, o2 + j * 4 + 2, none⟩ = some (.int .i64 z3) ∧ w0.drew.cell? ⟨b2, o2 + j * 4 + 3, none⟩ = some (.int .i64 z4) := Z0
  clear Z0 g0 g1 hc1 hd0 hd1 hd2 hd3
  refine Reg.takeT (i := 0) (v := ?_) rfl (by kernel_rfl) (by kernel_rfl) (by kernel_rfl) (by kernel_rfl) (fun _ _ _ h => h) (Or.inl ⟨by rfl, ?_⟩) (by assumption) ?_
  rotate_left 1
  focus (intro w hSw; (try dsimp only at hSw); go_simp; (try with_reducible rfl))
  try simp only [List.getElem_toArray, List.getElem_cons_succ, List.getElem_cons_zero, Act.put, List.setIfInBounds_toArray, List.set_cons_zero, List.set_cons_succ]
  refine Reg.takeT (i := 1) (v := ?_) rfl (by kernel_rfl) (by kernel_rfl) (by kernel_rfl) (by kernel_rfl) (fun _ _ _ h => h) (Or.inl ⟨by rfl, ?_⟩) (by assumption) ?_
  rotate_left 1
  focus (intro w hSw; (try dsimp only at hSw); go_simp; (try with_reducible rfl))
  try simp only [List.getElem_toArray, List.getElem_cons_succ, List.getElem_cons_zero, Act.put, List.setIfInBounds_toArray, List.set_cons_zero, List.set_cons_succ]
  refine Reg.takeT (i := 2) (v := ?_) rfl (by kernel_rfl) (by kernel_rfl) (by kernel_rfl) (by kernel_rfl) (fun _ _ _ h => h) (Or.inl ⟨by rfl, ?_⟩) (by assumption) ?_
  rotate_left 1
  focus (intro w hSw; (try dsimp only at hSw); go_simp; (try with_reducible rfl))
  try simp only [List.getElem_toArray, List.getElem_cons_succ, List.getElem_cons_zero, Act.put, List.setIfInBounds_toArray, List.set_cons_zero, List.set_cons_succ]
  refine Reg.takeT (i := 3) (v := ?_) rfl (by kernel_rfl) (by kernel_rfl) (by kernel_rfl) (by kernel_rfl) (fun _ _ _ h => h) (Or.inl ⟨by rfl, ?_⟩) (by assumption) ?_
  rotate_left 1
  focus (intro w hSw; (try dsimp only at hSw); go_simp; (try with_reducible rfl))
  try simp only [List.getElem_toArray, List.getElem_cons_succ, List.getElem_cons_zero, Act.put, List.setIfInBounds_toArray, List.set_cons_zero, List.set_cons_succ]
  refine Reg.takeT (i := 4) (v := ?_) rfl (by kernel_rfl) (by kernel_rfl) (by kernel_rfl) (by kernel_rfl) (fun _ _ _ h => h) (Or.inl ⟨by rfl, ?_⟩) (by assumption) ?_
  rotate_left 1
  focus (intro w hSw; (try dsimp only at hSw); go_simp; (try with_reducible rfl))
  try simp only [List.getElem_toArray, List.getElem_cons_succ, List.getElem_cons_zero, Act.put, List.setIfInBounds_toArray, List.set_cons_zero, List.set_cons_succ]
  refine Reg.takeT (i := 5) (v := ?_) rfl (by kernel_rfl) (by kernel_rfl) (by kernel_rfl) (by kernel_rfl) (fun _ _ _ h => h) (Or.inl ⟨by rfl, ?_⟩) (by assumption) ?_
  rotate_left 1
  focus (intro w hSw; (try dsimp only at hSw); go_simp; (try with_reducible rfl))
  try simp only [List.getElem_toArray, List.getElem_cons_succ, List.getElem_cons_zero, Act.put, List.setIfInBounds_toArray, List.set_cons_zero, List.set_cons_succ]
  refine Reg.takeT (i := 6) (v := ?_) rfl (by kernel_rfl) (by kernel_rfl) (by kernel_rfl) (by kernel_rfl) (fun _ _ _ h => h) (Or.inl ⟨by rfl, ?_⟩) (by assumption) ?_
  rotate_left 1
  focus (intro w hSw; (try dsimp only at hSw); go_simp; (try with_reducible rfl))
  try simp only [List.getElem_toArray, List.getElem_cons_succ, List.getElem_cons_zero, Act.put, List.setIfInBounds_toArray, List.set_cons_zero, List.set_cons_succ]
  refine Reg.takeT (i := 7) (v := ?_) rfl (by kernel_rfl) (by kernel_rfl) (by kernel_rfl) (by kernel_rfl) (fun _ _ _ h => h) (Or.inl ⟨by rfl, ?_⟩) (by assumption) ?_
  rotate_left 1
  focus (intro w hSw; (try dsimp only at hSw); go_simp; (try with_reducible rfl))
  try simp only [List.getElem_toArray, List.getElem_cons_succ, List.getElem_cons_zero, Act.put, List.setIfInBounds_toArray, List.set_cons_zero, List.set_cons_succ]
  refine Reg.takeT (i := 8) (v := ?_) rfl (by kernel_rfl) (by kernel_rfl) (by kernel_rfl) (by kernel_rfl) (fun _ _ _ h => h) (Or.inl ⟨by rfl, ?_⟩) (by assumption) ?_
  rotate_left 1
  focus (intro w hSw; (try dsimp only at hSw); go_simp; (try with_reducible rfl))
  try simp only [List.getElem_toArray, List.getElem_cons_succ, List.getElem_cons_zero, Act.put, List.setIfInBounds_toArray, List.set_cons_zero, List.set_cons_succ]
  refine Reg.takeT (i := 9) (v := ?_) rfl (by kernel_rfl) (by kernel_rfl) (by kernel_rfl) (by kernel_rfl) (fun _ _ _ h => h) (Or.inl ⟨by rfl, ?_⟩) (by assumption) ?_
  rotate_left 1
  focus (intro w hSw; (try dsimp only at hSw); go_simp; (try with_reducible rfl))
  try simp only [List.getElem_toArray, List.getElem_cons_succ, List.getElem_cons_zero, Act.put, List.setIfInBounds_toArray, List.set_cons_zero, List.set_cons_succ]
  have bd : Below w0.heap.size w0 w0.drew := below_dr (Below.refl _ _)
  replace HRP := hide (HRP.out.below (bd.mono HB.out.size))
  replace HB := hide (HB.out.trans (bd.mono HB.out.size))
  replace HL := hide (HL.out.call bd)
  replace HG := hide (HG.out.call bd)
  clear bd
  generalize w0.drew = w1 at *
  refine Reg.oneT (i := 10) rfl (by kernel_rfl) (fun K hK => ?_)
  go_simp
  have ba : Below w1.heap.size w1 (w1.alloc (.cells #[.string ⟨#[]⟩, .int .i64 0, .int .i64 0, .int .i64 0] 67)) := (by repeat (first | exact Below.refl _ _ | with_reducible assumption | (refine Below.drew ?_) | (refine Below.drewN ?_ _) | (refine Below.alloc ?_ (by simp; try omega) _) | (refine Below.setCell ?_ (by simp; try omega) _)))
  have HZ := hide (Box.new w1 67 #[.string ⟨#[]⟩, .int .i64 0, .int .i64 0, .int .i64 0])
  have hls : w.heap.size ≤ w1.heap.size := HB.out.size
  have hNw : N < w1.heap.size := HG.out.lt
  replace hHeld := And.intro ((ba.cell (p := ⟨N, 0, none⟩) hNw).trans hHeld.1) (And.intro ((ba.cell (p := ⟨N, 1, none⟩) hNw).trans hHeld.2.1) (And.intro ((ba.cell (p := ⟨b1, o1 + k * 2 + 1, none⟩) (show b1 < w1.heap.size by omega)).trans hHeld.2.2.1) (And.intro ((ba.cell (p := ⟨b2, o2 + j * 4, none⟩) (show b2 < w1.heap.size by omega)).trans hHeld.2.2.2.1) (And.intro ((ba.cell (p := ⟨b2, o2 + j * 4 + 1, none⟩) (show b2 < w1.heap.size by omega)).trans hHeld.2.2.2.2.1) (And.intro ((ba.cell (p := ⟨b2, o2 + j * 4 + 2, none⟩) (show b2 < w1.heap.size by omega)).trans hHeld.2.2.2.2.2.1) ((ba.cell (p := ⟨b2, o2 + j * 4 + 3, none⟩) (show b2 < w1.heap.size by omega)).trans hHeld.2.2.2.2.2.2))))))
  refine hK.out _ _ hHeld ?_
  clear hK K
  try simp only [List.getElem_toArray, List.getElem_cons_succ, List.getElem_cons_zero, Act.put, List.setIfInBounds_toArray, List.set_cons_zero, List.set_cons_succ]
  replace HRP := hide (HRP.out.below (ba.mono hls))
  replace HB := hide (HB.out.trans (ba.mono HB.out.size))
  replace HL := hide (HL.out.call ba)
  replace HG := hide (HG.out.call ba)
  clear ba
  generalize w1.alloc (.cells #[.string ⟨#[]⟩, .int .i64 0, .int .i64 0, .int .i64 0] 67) = w2 at *
  generalize w1.heap.size = Z at *
  clear hHeld
  have y0 := HZ.out.cell 0
  have y1 := HZ.out.cell 1
  have y2 := HZ.out.cell 2
  have y3 := HZ.out.cell 3
  simp only [List.getElem?_toArray, List.getElem?_cons_zero, List.getElem?_cons_succ] at y0 y1 y2 y3
  have yf0 := HZ.out.frozen 0
  have yf1 := HZ.out.frozen 1
  have yf2 := HZ.out.frozen 2
  have yf3 := HZ.out.frozen 3
  have hzl := HZ.out.lt
  refine Reg.lastT (i := 11) rfl (by kernel_rfl) (by rfl) (fun K hK => ?_)
  go_simp
  refine hK.out _ _ ?_
  clear hK K
  try simp only [List.getElem_toArray, List.getElem_cons_succ, List.getElem_cons_zero, Act.put, List.setIfInBounds_toArray, List.set_cons_zero, List.set_cons_succ]
  refine Reg.doneT (by kernel_rfl) ?_ _
  generalize hW : (((w2.setCell ⟨Z, 0, none⟩ (.string z1)).setCell ⟨Z, 1, none⟩ (.int .i64 z2)).setCell ⟨Z, 2, none⟩ (.int .i64 z3)).setCell ⟨Z, 3, none⟩ (.int .i64 z4) = w3 at *
  have HZ3 := hide (show Box w3 Z 67 #[.string z1, .int .i64 z2, .int .i64 z3, .int .i64 z4] from by
    rw [← hW]
    exact (((HZ.out.set 0 _).set 1 _).set 2 _).set 3 _)
  have bz : Below Z w2 w3 := by
    rw [← hW]
    exact ((((Below.refl _ _).setCell (p := ⟨Z, 0, none⟩) (Nat.le_refl _) _).setCell (p := ⟨Z, 1, none⟩) (Nat.le_refl _) _).setCell (p := ⟨Z, 2, none⟩) (Nat.le_refl _) _).setCell (p := ⟨Z, 3, none⟩) (Nat.le_refl _) _
  have HB3 := hide (HB.out.trans (bz.mono hls))
  have HRP3 := hide (HRP.out.below (bz.mono hls))
  have HL3 := hide (show Box w3 w.heap.size 84 #[.slice PA rs.length pc, .slice EA m ec] from (bz.block _ (show w.heap.size < Z by omega)).trans HL.out)
  have HG3 := hide (show Box w3 N 79 #[.int .i64 k, .int .i64 j] from (bz.block _ hNw).trans HG.out)
  clear hW bz HZ HB HRP HL HG y0 y1 y2 y3 yf0 yf1 yf2 yf3 hzl
  have y2 := HZ3.out.cell 2
  have y3 := HZ3.out.cell 3
  simp only [List.getElem?_toArray, List.getElem?_cons_zero, List.getElem?_cons_succ] at y2 y3
  have hzl := HZ3.out.lt
  by_cases hz : z3 = -2
  · have e1 : (z3 == -2) = true := beq_iff_eq.2 hz
    have HV := hide (show tgY (rs.map RV.zs) k (z1, z2, z3, z4) = z4 from if_pos hz)
    clear hz
    go_wp2_with fail
    go_ret
    exact ⟨by rw [HV.out]; rfl, HB3.out⟩
  · have e1 : (z3 == -2) = false := beq_eq_false_iff_ne.2 hz
    obtain ⟨hp1, hp2, hp3⟩ := HPL.out
    simp only at hp1 hp2 hp3
    obtain ⟨h0, hkr, hir, hlo, hhi⟩ := hp1.resolve_left hz
    have HV := hide (show tgY (rs.map RV.zs) k (z1, z2, z3, z4) = (rs[k]).zs[z3.toNat] + z4 from by
      unfold tgY
      rw [if_neg hz, getP_at hkr hir])
    obtain ⟨b5, o5, hPA, hb5, hrow⟩ := HRP3.out.at hkr
    obtain ⟨b6, o6, hRA, hb6, hcell⟩ := (HRP3.out.2 _ (List.getElem_mem hkr)).int hir
    have HL4 := HL3.out.cell 0
    simp only [List.getElem?_toArray, List.getElem?_cons_zero] at HL4
    rw [hPA] at HL4
    rw [hRA] at hrow
    obtain ⟨i, hi⟩ : ∃ i : Nat, z3 = (i : Int) := ⟨z3.toNat, by omega⟩
    subst hi
    simp only [Int.toNat_natCast] at hir hlo hhi HV hcell
    generalize (rs[k]).zs[i] = p at *
    generalize (rs[k]).zs.length = rn at *
    generalize (rs[k]).c = rc at *
    have hll := HL3.out.lt
    have g0 := HG3.out.cell 0
    simp only [List.getElem?_toArray, List.getElem?_cons_zero, List.getElem?_cons_succ] at g0
    have hgl := HG3.out.lt
    have hwr : IntKind.i64.wrap (p + z4) = p + z4 := IntWalk.i64_in _ (by omega)
    clear hz hp1 HPL hRA hPA HRP3 h0
    go_wp2_with fail
    go_quiet (fail)
    go_wp2_with fail
    go_ret
    exact ⟨by rw [HV.out]; rfl, Kit.Below.drewN HB3.out _⟩
end Go.Proofs.YtepoiphmmjfbdaaGreatDoor.CPlaceL
