/- copyObjects and deskLink; the program's. -/
import Derived.Test.YtepoiphmmjfbdaaGreatDoorFnDeskLoadM8
import Derived.Maps.Own
import Derived.Maps.Views
import Derived.StringKeys
import Derived.Laws.OwnMore
set_option linter.unusedSimpArgs false
set_option linter.unusedVariables false
namespace Go.Proofs.YtepoiphmmjfbdaaGreatDoor.CDeskLI
set_option maxRecDepth 200000
open Go.ChangeShapes Go.WideShapes Go.ChangeAt Go.RowKit Kit CCode CName CNumTxt CFixups CSymbols PObj BObj PValid PClear PNum PDump PLink PLinkL BList CMarkRows BObj2 BRetO CObjValid CCopyS CCopyI CValids CObjL COwnL PJoin PJoin2 PDesk PLinkIn BDesk CHexI CHexS CLink CJoinAI
set_option maxHeartbeats 4000000 in
theorem copyObjects_any (A : Option Addr) (os : List OV) (c : Nat) (w : World) (hr : RdOs w w.heap.size A os) (hf : Fits os) (hn : ∀ o ∈ os, Nils o) (hs : ∀ o ∈ os, o.ps.length ≤ 100 ∧ o.ys.length ≤ 100) :
    Calls Tryz.prog 44 #[.slice A os.length c] w (RetOs (os.map OV.d) w) := by
  obtain ⟨i0, hi1, hi2, hi3, hi4⟩ := info_parts infoO
  have HI := hide (And.intro hi1 (And.intro hi2 (And.intro hi3 hi4)))
  clear hi1 hi2 hi3 hi4
  have hm := hf.n
  have HR := hide hr
  have HL := hide (fun o (ho : o ∈ os) => And.intro (hf.o o ho) (And.intro (hn o ho) (hs o ho)))
  clear hr hf hn hs
  have HB := hide (show Below w.heap.size w (w.alloc (.cells #[] 26)) from (by repeat (first | exact Below.refl _ _ | with_reducible assumption | (refine Below.drew ?_) | (refine Below.drewN ?_ _) | (refine Below.alloc ?_ (by simp; try omega) _) | (refine Below.setCell ?_ (by simp; try omega) _))))
  go_enter Tryz.func44, Tryz.ntmps44
  go_wp2_with fail
  generalize w.alloc (.cells #[] 26) = w0 at *
  go_loopw [3, 9] (fun s i wi => ∃ (k : Nat) (qs : List OV) (Aq : Option Addr) (cq : Nat), k ≤ os.length ∧ qs.length = k ∧ s = .slice Aq qs.length cq ∧ i = .int .i64 k ∧ qs.map OV.d = (os.take k).map OV.d ∧ OwnOs wi w.heap.size Aq cq qs ∧ Below w.heap.size w wi) (fun _ i _ => os.length - (intOf i).toNat)
  case atStart => exact ⟨0, [], _, 0, Nat.zero_le _, rfl, rfl, rfl, rfl, ⟨Row.empty _ _ _ _ _, (fun p hp => by cases hp), List.Pairwise.nil⟩, HB.out⟩
  case round =>
    clear HB
    obtain ⟨k, qs, Aq, cq, hk, hql, rfl, rfl, hqd, ho, hb⟩ := hrel
    have HO := hide ho
    have HB := hide hb
    have HQL := hide hql
    have HQD := hide hqd
    have hq1 : qs.length ≤ 1048576 := by omega
    clear hqd ho hql
    by_cases hlt : k < os.length
    · obtain ⟨b, off, rfl, hbg, hc⟩ := (HR.out.1.below hb).row objC_len (by decide) hlt
      have hc0 := hc 0 _ rfl
      have hc1 := hc 1 _ rfl
      simp only [Nat.add_zero] at hc0
      have HM := hide (HL.out _ (List.getElem_mem hlt))
      have HRS := hide (((HR.out.2 _ (List.getElem_mem hlt)).below hb).more hb.size)
      have HD := hide (show qs.map OV.d ++ [(os[k]).d] = (os.take (k + 1)).map OV.d by rw [take_succ hlt, List.map_append, HQD.out]; rfl)
      clear hb hc
      generalize os[k] = p at *
      have B1 : Below wr.heap.size wr (wr.alloc (.cells #[.slice p.A p.ps.length p.c, .slice p.Y p.ys.length p.yc] 26)) := (by repeat (first | exact Below.refl _ _ | with_reducible assumption | (refine Below.drew ?_) | (refine Below.drewN ?_ _) | (refine Below.alloc ?_ (by simp; try omega) _) | (refine Below.setCell ?_ (by simp; try omega) _)))
      have HXP := hide (Box.new wr 26 #[.slice p.A p.ps.length p.c, .slice p.Y p.ys.length p.yc])
      replace HRS := hide ((HRS.out.below B1).more B1.size)
      replace HO := hide (HO.out.call B1)
      replace HB := hide (HB.out.trans (B1.mono HB.out.size))
      clear B1
      have y0 := HXP.out.cell 0
      have y1 := HXP.out.cell 1
      simp only [List.getElem?_toArray, List.getElem?_cons_zero, List.getElem?_cons_succ] at y0 y1
      have hyl := HXP.out.lt
      go_wp2_with fail
      clear hc0 hc1 y0 y1 hyl HXP
      generalize wr.alloc (.cells #[.slice p.A p.ps.length p.c, .slice p.Y p.ys.length p.yc] 26) = w1 at *
      refine (copyObject_any p w1 HRS.out HM.out.1 HM.out.2.1 HM.out.2.2).mono ?_
      rintro e w2 ⟨q, rfl, hqd, r2, b2⟩
      have HRQ := hide (r2.down HB.out.size)
      have HNEW := hide (fun j (hj : oblk q j) => (show w1.heap.size ≤ j from (r2.lt j hj).1))
      have HOLD := hide (fun x (hx : x ∈ qs) j (hj : oblk x j) => (show j < w1.heap.size from ((HO.out.2.1 x hx).lt j hj).2))
      have HQ := hide hqd
      have HO2 := hide (HO.out.call b2)
      replace HB := hide (HB.out.trans (b2.mono HB.out.size))
      clear b2
      clear hqd r2 HO HRS
      have B3 : Below w2.heap.size w2 (w2.alloc (.cells (objC q).toArray 26)) := (by repeat (first | exact Below.refl _ _ | with_reducible assumption | (refine Below.drew ?_) | (refine Below.drewN ?_ _) | (refine Below.alloc ?_ (by simp; try omega) _) | (refine Below.setCell ?_ (by simp; try omega) _)))
      have HO3 := hide (HO2.out.call B3)
      have HRQ3 := hide (HRQ.out.call B3)
      replace HB := hide (HB.out.trans (B3.mono HB.out.size))
      clear B3
      clear HO2 HRQ
      simp only [objC] at HO3 HRQ3 HB ⊢
      simp only [OV.v]
      go_wp2_with (at_builtin; refine wpList_app _ rfl (.tmp 13) (.tmp 16) 32 rfl 26 i0 (.agg #[.slice none 0 0, .slice none 0 0]) 2 48 Tryz.underlying32 HI.out.1 HI.out.2.1 HI.out.2.2.1 HI.out.2.2.2 rfl (by decide) w.heap.size Aq qs.length cq (cellsOf objC qs) rfl HO3.out.1 HB.out.size (some ⟨w2.heap.size, 0, none⟩) 1 1 (objC q) rfl (rd_lit w2 (objC q).toArray 26 _ rfl) rfl (fun h => by cases h) (one_objC q) ?n1 ?n2 ?_)
      case n1 => unfold maxLen; omega
      case n2 => omega
      intro A8 n8 c8 w8 hn8 o8 g8 k8
      have HOW := hide (OwnOs.snoc HO3.out HRQ3.out HOLD.out HNEW.out hn8 o8 g8)
      have HB8 := hide (HB.out.grown g8 HB.out.size (fun j hj => (HO3.out.1.lt j hj).1))
      have hn8' : n8 = (qs ++ [q]).length := by rw [hn8, List.length_append]; rfl
      subst hn8'
      clear hn8 o8 g8 k8 HO3 HRQ3
      go_wp2_with fail
      refine ⟨⟨k + 1, qs ++ [q], A8, c8, by omega, by simp [HQL.out], by first | rfl | rw [List.length_append], by go_num, ?_, HOW.out, HB8.out⟩, by simp [intOf]; omega⟩
      rw [← HD.out, List.map_append, List.map_singleton, HQ.out]
    · have hke : k = os.length := by omega
      have HH := hide (show RetOs (os.map OV.d) w (.returned (.slice Aq qs.length cq)) wr from ⟨Aq, cq, qs, rfl, by rw [HQD.out, hke, List.take_length], HO.out, HB.out⟩)
      subst hke
      clear hb
      go_wp2_with fail
      go_ret
      exact HH.out
theorem bs_list (x : List UInt8) : (bs x).toList = x := by
  rw [ByteArray.toList_eq]
  simp [bs]
set_option maxHeartbeats 16000000 in
theorem deskLink_any (A : Option Addr) (os : List OV) (c : Nat) (t : List UInt8) (w : World) (hr : RdOs w w.heap.size A os) (hf : Fits os) (hn : ∀ o ∈ os, Nils o) (hz : ∀ o ∈ os, InD o.d) (ht : t.length ≤ 1048576) (he : Env w) :
    Calls Tryz.prog 49 #[.slice A os.length c, .string (bs t)] w (Ret (.string (bs (linkI (os.map OV.d) t))) w) := by
  have HR := hide hr
  have HF := hide hf
  have HN := hide hn
  have HE := hide he
  have HZ := hide (show ∀ d ∈ os.map OV.d, InD d from fun d hd => by
    obtain ⟨o, ho, rfl⟩ := List.mem_map.1 hd
    exact hz o ho)
  have HAT := hide (atoi_any (bs t) (by rw [bs_size]; omega) w he)
  rw [show (bs t).data.toList = t from by simp [bs]] at HAT
  have HQT := hide (bs_list t)
  clear hr hf hn he hz
  go_enter Tryz.func49, Tryz.ntmps49
  go_wp2_with fail
  refine HAT.out.mono ?_
  clear HAT
  rintro e w1 (⟨v, hv, hv0, hv1, rfl, b1⟩ | ⟨hv, x, t', p, rfl, b1⟩)
  · have HB := hide b1
    have HAV := hide hv
    clear b1 hv
    go_wp2_with fail
    refine (itoa_any v hv0 hv1 w1 (HE.out.below HB.out)).mono ?_
    rintro e w2 ⟨rfl, b2⟩
    replace HB := hide (HB.out.trans (b2.mono HB.out.size))
    clear b2
    have HQI := hide (bs_list (Lib.itoa v))
    by_cases hc : Lib.itoa v = t
    · have HCN := hide (show canon t = some v from by
        unfold canon
        rw [HAV.out]
        exact if_pos hc)
      have hq1 : ((bs (Lib.itoa v)).toList == (bs t).toList) = true := by rw [HQI.out, HQT.out, hc]; simp
      have hq2 : ((bs (Lib.itoa v)).toList != (bs t).toList) = false := by rw [bne, hq1]; rfl
      clear hc HAV
      go_wp2_with fail
      clear hq1 hq2
      refine (link_any A os c v w2 ((HR.out.below HB.out).more HB.out.size) HF.out (fun o ho p hp => ((HN.out o ho).p p hp).1)).mono ?_
      rintro e w3 ⟨A3, c3, rfl, row3, b3⟩
      have HW := hide row3
      have HIN := hide (link_in (base := v) HZ.out)
      have HCA := hide (show linkI (os.map OV.d) t = codeA (linkR (os.map OV.d) v) from by
        unfold linkI
        rw [HCN.out])
      replace HB := hide (HB.out.trans (b3.mono HB.out.size))
      clear b3
      clear row3 HCN
      have HLN := hide (link_len (l := os.map OV.d) (base := v))
      generalize linkR (os.map OV.d) v = r at *
      obtain ⟨r1, r2, r3⟩ := r
      have hrl : r2.length ≤ 10000 := HLN.out
      clear HLN
      simp only at HW HIN ⊢
      have BA : Below w3.heap.size w3 (w3.alloc (.cells #[.int .i64 r1, .slice A3 r2.length c3] 36)) := (by repeat (first | exact Below.refl _ _ | with_reducible assumption | (refine Below.drew ?_) | (refine Below.drewN ?_ _) | (refine Below.alloc ?_ (by simp; try omega) _) | (refine Below.setCell ?_ (by simp; try omega) _)))
      have HX := hide (Box.new w3 36 #[.int .i64 r1, .slice A3 r2.length c3])
      have HRD := hide ((HW.out.rd.below BA).more BA.size)
      have hr2 : (r2.length : Int) ≤ 9223372036854775807 := by
        have h := HW.out.cap
        unfold maxLen at h
        omega
      replace HB := hide (HB.out.trans (BA.mono HB.out.size))
      clear BA
      clear HW
      by_cases h1 : r3 = 1
      · have HV := hide (HCA.out.trans (show codeA (r1, r2, r3) = twiceT from if_pos h1))
        have e1 : (r3 == 1) = true := beq_iff_eq.2 h1
        clear h1 HCA
        go_wp2_with fail
        go_ret
        rw [HV.out]
        exact ⟨rfl, HB.out⟩
      by_cases h2 : r3 = 2
      · have HV := hide (HCA.out.trans (show codeA (r1, r2, r3) = missT from by unfold codeA; rw [if_neg h1, if_pos h2]))
        have e1 : (r3 == 1) = false := beq_eq_false_iff_ne.2 h1
        have e2 : (r3 == 2) = true := beq_iff_eq.2 h2
        clear h1 h2 HCA
        go_wp2_with fail
        go_ret
        rw [HV.out]
        exact ⟨rfl, HB.out⟩
      by_cases h3 : r3 = 3
      · have HV := hide (HCA.out.trans (show codeA (r1, r2, r3) = rangeT from by unfold codeA; rw [if_neg h1, if_neg h2, if_pos h3]))
        have e1 : (r3 == 1) = false := beq_eq_false_iff_ne.2 h1
        have e2 : (r3 == 2) = false := beq_eq_false_iff_ne.2 h2
        have e3 : (r3 == 3) = true := beq_iff_eq.2 h3
        clear h1 h2 h3 HCA
        go_wp2_with fail
        go_ret
        rw [HV.out]
        exact ⟨rfl, HB.out⟩
      by_cases h4 : r3 = 0
      · have e1 : (r3 == 1) = false := beq_eq_false_iff_ne.2 h1
        have e2 : (r3 == 2) = false := beq_eq_false_iff_ne.2 h2
        have e3 : (r3 == 3) = false := beq_eq_false_iff_ne.2 h3
        have e4 : (r3 != 0) = false := by rw [bne, beq_iff_eq.2 h4]; rfl
        have x1 := HX.out.cell 1
        simp only [List.getElem?_toArray, List.getElem?_cons_zero, List.getElem?_cons_succ] at x1
        have hxl := HX.out.lt
        by_cases h5 : r2.length = 0
        · have HV := hide (HCA.out.trans (show codeA (r1, r2, r3) = emptyT from by unfold codeA; rw [if_neg h1, if_neg h2, if_neg h3, if_neg (fun h => h h4), if_pos h5]))
          have e5 : ((r2.length : Int) == 0) = true := beq_iff_eq.2 (by omega)
          clear h1 h2 h3 h4 h5 HCA
          go_wp2_with fail
          go_ret
          rw [HV.out]
          exact ⟨rfl, HB.out⟩
        · have HV := hide (HCA.out.trans (show codeA (r1, r2, r3) = hexL r2 from by unfold codeA; rw [if_neg h1, if_neg h2, if_neg h3, if_neg (fun h => h h4), if_neg h5]))
          have e5 : ((r2.length : Int) == 0) = false := beq_eq_false_iff_ne.2 (by omega)
          clear h1 h2 h3 h4 h5 HCA
          go_wp2_with fail
          refine (hexText_any A3 r2 c3 _ HRD.out HIN.out (by omega)).mono ?_
          rintro e w4 ⟨rfl, b4⟩
          replace HB := hide (HB.out.trans (b4.mono HB.out.size))
          clear b4
          go_wp2_with fail
          go_ret
          rw [HV.out]
          exact ⟨rfl, HB.out⟩
      · have HV := hide (HCA.out.trans (show codeA (r1, r2, r3) = noT from by unfold codeA; rw [if_neg h1, if_neg h2, if_neg h3, if_pos h4]))
        have e1 : (r3 == 1) = false := beq_eq_false_iff_ne.2 h1
        have e2 : (r3 == 2) = false := beq_eq_false_iff_ne.2 h2
        have e3 : (r3 == 3) = false := beq_eq_false_iff_ne.2 h3
        have e4 : (r3 != 0) = true := bne_iff_ne.2 h4
        clear h1 h2 h3 h4 HCA
        go_wp2_with fail
        go_ret
        rw [HV.out]
        exact ⟨rfl, HB.out⟩
    · have HV := hide (show linkI (os.map OV.d) t = noT from by
        unfold linkI canon
        rw [HAV.out]
        simp only
        rw [if_neg hc])
      have hq1 : ((bs (Lib.itoa v)).toList == (bs t).toList) = false := by rw [HQI.out, HQT.out]; exact beq_eq_false_iff_ne.2 hc
      have hq2 : ((bs (Lib.itoa v)).toList != (bs t).toList) = true := by rw [bne, hq1]; rfl
      clear hc HAV
      go_wp2_with fail
      go_ret
      rw [HV.out]
      exact ⟨rfl, HB.out⟩
  · have HB := hide b1
    have HV := hide (show linkI (os.map OV.d) t = noT from by
      have h : canon t = none := by
        unfold canon
        split
        · rename_i v h
          exact absurd h (hv v)
        · rfl
      unfold linkI
      rw [h])
    clear b1 hv
    go_wp2_with fail
    go_ret
    rw [HV.out]
    exact ⟨rfl, HB.out⟩
end Go.Proofs.YtepoiphmmjfbdaaGreatDoor.CDeskLI
/- The map literal of readLine: three words with five each, and a look-up. -/
namespace Go.Proofs.YtepoiphmmjfbdaaGreatDoor.BMap
set_option maxRecDepth 200000
open Go Go.Maps
open Go.ChangeShapes Go.WideShapes Go.ChangeAt Go.RowKit Kit PDump
theorem u5 : (Lit.int .i64 5).wf = true := by decide
theorem keyB (l : List UInt8) (h : l.length ≤ maxLen) : keyOf Tryz.prog 9 (.string (bs l)) = some (.string l) := by
  have := Go.WideMaps.keyOf_string_mk (P := Tryz.prog) Tryz.underlying9 (s := bs l) (by show (bs l).data.size ≤ maxLen; simpa [bs] using h)
  simpa [bs] using this
/-- What is read behind the three. -/
theorem at3 {H : Type} (l : List UInt8) : ((((DataW.map (H := H) []).put (.string secW) (.lit (.int .i64 5))).put (.string fixW) (.lit (.int .i64 5))).put (.string symW) (.lit (.int .i64 5))).atKey (.string l) (.lit (.int .i64 0)) = .lit (.int .i64 (many l)) := by
  have m0 : IsMap (DataW.map (H := H) []) := ⟨_, rfl⟩
  have m1 : IsMap ((DataW.map (H := H) []).put (.string secW) (.lit (.int .i64 5))) := ⟨_, rfl⟩
  have m2 : IsMap (((DataW.map (H := H) []).put (.string secW) (.lit (.int .i64 5))).put (.string fixW) (.lit (.int .i64 5))) := ⟨_, rfl⟩
  unfold many
  by_cases h3 : l = symW
  · subst h3
    rw [atKey_put_same m2 (show WideAt.IsKeyLit (.string symW) from trivial)]
    rfl
  rw [atKey_put_other (by simpa using h3)]
  by_cases h2 : l = fixW
  · subst h2
    rw [atKey_put_same m1 (show WideAt.IsKeyLit (.string fixW) from trivial)]
    rfl
  rw [atKey_put_other (by simpa using h2)]
  by_cases h1 : l = secW
  · subst h1
    rw [atKey_put_same m0 (show WideAt.IsKeyLit (.string secW) from trivial)]
    rfl
  rw [atKey_put_other (by simpa using h1)]
  rw [if_neg (by simp [h1, h2, h3])]
  rfl
theorem three (w : World) (l : List UInt8) (hl : l.length ≤ maxLen) : ∃ w1 w2 w3,
    (Instr.mapUpdate 159 (.map (some w.heap.size)) (.string ⟨#[115, 101, 99, 116, 105, 111, 110]⟩) (.int .i64 5)).run Tryz.prog (w.alloc (.map #[] 0)) = .ok () w1 ∧
    (Instr.mapUpdate 159 (.map (some w.heap.size)) (.string ⟨#[102, 105, 120, 117, 112]⟩) (.int .i64 5)).run Tryz.prog w1 = .ok () w2 ∧
    (Instr.mapUpdate 159 (.map (some w.heap.size)) (.string ⟨#[115, 121, 109, 98, 111, 108]⟩) (.int .i64 5)).run Tryz.prog w2 = .ok () w3 ∧
    (Instr.lookup 159 (.map (some w.heap.size)) (.string (bs l)) false).run Tryz.prog w3 = .ok (.int .i64 (many l)) w3 ∧ Below w.heap.size w w3 := by
  have K : Keyed Tryz.prog 9 := string_keyed Tryz.underlying9
  have hT : Tryz.prog.underlying 159 = some (.map 9 3) := Tryz.underlying159
  have h0 := World.ownsMap_made (H := Unit) w Tryz.prog 9 (plainElem Tryz.prog 3)
  have hv : plainElem (H := Unit) Tryz.prog 3 (.int .i64 5) = some (.lit (.int .i64 5), []) := plainElem_int Tryz.underlying3 u5
  obtain ⟨w1, r1, o1, g1⟩ := h0.update K hT (by unfold maxLen; omega) (keyB secW (by decide)) hv
  obtain ⟨w2, r2, o2, g2⟩ := o1.update K hT (by unfold maxLen; omega) (keyB fixW (by decide)) hv
  obtain ⟨w3, r3, o3, g3⟩ := o2.update K hT (by unfold maxLen; omega) (keyB symW (by decide)) hv
  obtain ⟨c, hrun, hat, _⟩ := o3.lookup_int K hT Tryz.underlying3 rfl (keyB l hl)
  rw [at3 l] at hat
  injection hat with hat
  injection hat with _ hat
  subst hat
  refine ⟨w1, w2, w3, r1, r2, r3, hrun, ?_⟩
  have b0 : Below w.heap.size w (w.alloc (.map #[] 0)) := (Below.refl _ _).alloc (Nat.le_refl _) _
  have b1 := b0.grown g1 b0.size (fun j hj => by injection hj with hj; omega)
  have b2 := b1.grown g2 b1.size (fun j hj => by injection hj with hj; omega)
  exact b2.grown g3 b2.size (fun j hj => by injection hj with hj; omega)
end Go.Proofs.YtepoiphmmjfbdaaGreatDoor.BMap
/- numbersOf: words as numbers; the program's. -/
namespace Go.Proofs.YtepoiphmmjfbdaaGreatDoor.CNumsI
set_option maxRecDepth 200000
open Go.ChangeShapes Go.WideShapes Go.ChangeAt Go.RowKit Kit CNumTxt PNum PDump CHexI CHexS CSorted CNames CWordsS BStore BDesk
theorem Rd.str {w : World} {B : Nat} {A : Option Addr} {ws : List (List UInt8)} (h : Rd w B A (nmC (ws.map bs))) {k : Nat} (hk : k < ws.length) : ∃ b off, A = some ⟨b, off, none⟩ ∧ b < B ∧ w.cell? ⟨b, off + k, none⟩ = some (.string (bs ws[k])) := by
  obtain ⟨b, off, h1, h2, h3⟩ := h k (.string (bs ws[k])) (by simp [nmC, List.getElem?_eq_getElem hk])
  exact ⟨b, off, h1, h2, h3⟩
/-- A fresh row of numbers, or none. -/
def RetFI (r : Option (List Int)) (w : World) (e : Ending) (w' : World) : Prop := ∃ A c n, e = .returned (.tuple #[.slice A n c, .bool r.isSome]) ∧ Below w.heap.size w w' ∧ ∀ b, r = some b → n = b.length ∧ Row w' w.heap.size 3 1 A n c (ints .i64 b)
theorem nums_ok {ws : List (List UInt8)} {k : Nat} (h : k < ws.length) {v : Int} (hv : Lib.atoiAll ws[k] = .ok v) {ys : List Int} (hu : nums ws = (nums (ws.drop k)).map (ys ++ ·)) : nums ws = (nums (ws.drop (k + 1))).map ((ys ++ [v]) ++ ·) := by
  rw [hu, List.drop_eq_getElem_cons h, nums, hv]
  simp only [Option.map_map]
  congr 1
  funext zs
  simp
theorem nums_bad {ws : List (List UInt8)} {k : Nat} (h : k < ws.length) (hv : ∀ v, Lib.atoiAll ws[k] ≠ .ok v) {ys : List Int} (hu : nums ws = (nums (ws.drop k)).map (ys ++ ·)) : nums ws = none := by
  rw [hu, List.drop_eq_getElem_cons h, nums]
  cases ha : Lib.atoiAll ws[k] with
  | ok v => exact absurd ha (hv v)
  | _ => rfl
theorem one_i (x : Int) : ∀ u ∈ [Value.int .i64 x], u.oneCell' = true := fun u hu => by
  rw [List.mem_singleton] at hu
  subst hu
  rfl
set_option maxHeartbeats 4000000 in
theorem numbersOf_any (A : Option Addr) (ws : List (List UInt8)) (c : Nat) (w : World) (hr : Rd w w.heap.size A (nmC (ws.map bs))) (hn : ws.length ≤ 1048577) (hl : ∀ x ∈ ws, x.length ≤ 1048576) (he : Env w) :
    Calls Tryz.prog 147 #[.slice A ws.length c] w (RetFI (nums ws) w) := by
  obtain ⟨i0, hi1, hi2, hi3, hi4⟩ := info_parts CInts.info64
  have HI := hide (And.intro hi1 (And.intro hi2 (And.intro hi3 hi4)))
  clear hi1 hi2 hi3 hi4
  have HR := hide hr
  have HE := hide he
  have HL := hide hl
  clear hr he hl
  have HB := hide (show Below w.heap.size w (w.alloc (.cells #[] 3)) from (by repeat (first | exact Below.refl _ _ | with_reducible assumption | (refine Below.drew ?_) | (refine Below.drewN ?_ _) | (refine Below.alloc ?_ (by simp; try omega) _) | (refine Below.setCell ?_ (by simp; try omega) _))))
  go_enter Tryz.func147, Tryz.ntmps147
  go_wp2_with fail
  generalize w.alloc (.cells #[] 3) = w0 at *
  go_loopw [4, 12] (fun v i wi => ∃ (k : Nat) (A1 : Option Addr) (c1 : Nat) (ys : List Int), k ≤ ws.length ∧ v = .slice A1 ys.length c1 ∧ i = .int .i64 k ∧ ys.length = k ∧ nums ws = (nums (ws.drop k)).map (ys ++ ·) ∧ Row wi w.heap.size 3 1 A1 ys.length c1 (ints .i64 ys) ∧ Below w.heap.size w wi) (fun _ i _ => ws.length - (intOf i).toNat)
  case atStart => exact ⟨0, _, 0, [], Nat.zero_le _, rfl, rfl, rfl, by simp, Row.empty _ _ _ _ _, HB.out⟩
  case round =>
    rename World => wk
    clear HB
    obtain ⟨k, A1, c1, ys, hk, rfl, rfl, hyl, hu, hrow, hb⟩ := hrel
    have HU := hide hu
    have HW := hide hrow
    have HB := hide hb
    have hl2 : ys.length ≤ 1048577 := by omega
    have HYL := hide hyl
    clear hu hrow hb hyl
    by_cases hlt : k < ws.length
    · obtain ⟨b, off, hA, hbb, hc⟩ := Rd.str (HR.out.below HB.out) hlt
      have HOK := hide (fun v hv => nums_ok hlt (v := v) hv HU.out)
      have HBD := hide (fun hv => nums_bad hlt hv HU.out)
      have HLX := hide (HL.out ws[k] (List.getElem_mem hlt))
      have HAT := hide (fun (V : World) (hE : Env V) => atoi_any (bs ws[k]) (by rw [bs_size]; have := HLX.out; omega) V hE)
      rw [show (bs ws[k]).data.toList = ws[k] from by simp [bs]] at HAT
      clear HU HL
      generalize ws[k] = x at *
      rw [hA]
      clear hA
      go_wp2_with fail
      refine (HAT.out _ (HE.out.below HB.out)).mono ?_
      rintro e w2 (⟨v, hv, hv0, hv1, rfl, bb⟩ | ⟨hv, y, t, p, rfl, bb⟩)
      · have HV := hide (HOK.out v hv)
        clear hv HOK HBD hc
        replace HB := hide (HB.out.trans (bb.mono HB.out.size))
        replace HW := hide (HW.out.call bb)
        clear bb
        have BA : Below w2.heap.size w2 (w2.alloc (.cells #[.int .i64 v] 3)) := (by repeat (first | exact Below.refl _ _ | with_reducible assumption | (refine Below.drew ?_) | (refine Below.drewN ?_ _) | (refine Below.alloc ?_ (by simp; try omega) _) | (refine Below.setCell ?_ (by simp; try omega) _)))
        replace HB := hide (HB.out.trans (BA.mono HB.out.size))
        replace HW := hide (HW.out.call BA)
        clear BA
        go_wp2_with (at_builtin; refine wpList_app (w2.alloc (.cells #[.int .i64 v] 3)) rfl (.tmp 23) (.tmp 25) 89 rfl 3 i0 (.int .i64 0) 1 8 Tryz.underlying89 HI.out.1 HI.out.2.1 HI.out.2.2.1 HI.out.2.2.2 rfl (by decide) w.heap.size A1 ys.length c1 (ints .i64 ys) rfl HW.out HB.out.size (some ⟨w2.heap.size, 0, none⟩) 1 1 [.int .i64 v] rfl (rd_lit w2 #[.int .i64 v] 3 _ rfl) rfl (fun h => by cases h) (one_i _) ?n1 ?n2 ?_)
        case n1 => unfold maxLen; omega
        case n2 => omega
        intro A9 n9 c9 wz hn9 o9 g9 k9
        subst hn9
        have HB9 := hide (HB.out.grown g9 HB.out.size (fun j hj => (HW.out.lt j hj).1))
        have HW9 := hide (show Row wz w.heap.size 3 1 A9 (ys ++ [v]).length c9 (ints .i64 (ys ++ [v])) from by
          rw [List.length_append, show ints .i64 (ys ++ [v]) = ints .i64 ys ++ [.int .i64 v] from by simp [ints]]
          exact o9)
        have hq := HYL.out
        have HLN9 := hide (show (ys ++ [v]).length = k + 1 from by rw [List.length_append, hq]; rfl)
        clear o9 g9 k9 HW HB hq
        generalize hG : ys ++ [v] = zs at *
        have hzl : zs.length = ys.length + 1 := by rw [← hG]; simp
        rw [← hzl]
        clear hG hzl
        go_wp2_with fail
        refine ⟨⟨k + 1, A9, c9, zs, by omega, rfl, by go_num, HLN9.out, HV.out, HW9.out, HB9.out⟩, by simp [intOf]; omega⟩
      · have HV := hide (HBD.out hv)
        clear hv HOK HBD hc
        replace HB := hide (HB.out.trans (bb.mono HB.out.size))
        replace HW := hide (HW.out.call bb)
        clear bb
        go_wp2_with fail
        go_ret2
        rw [HV.out]
        exact ⟨_, _, _, rfl, HB.out, fun b h => by cases h⟩
    · have hke : k = ws.length := by omega
      have HV := hide (show nums ws = some ys from by
        rw [HU.out, List.drop_eq_nil_of_le (Nat.le_of_eq hke.symm)]
        simp [nums])
      clear hke
      go_wp2_with fail
      go_ret2
      rw [HV.out]
      exact ⟨A1, c1, ys.length, rfl, HB.out, fun b h => by cases h; exact ⟨rfl, HW.out⟩⟩
end Go.Proofs.YtepoiphmmjfbdaaGreatDoor.CNumsI
/- ReadHex: digits back to bytes; the program's. -/
namespace Go.Proofs.YtepoiphmmjfbdaaGreatDoor.CUnhexI
set_option maxRecDepth 200000
open Go.ChangeShapes Go.WideShapes Go.ChangeAt Go.RowKit Kit CEqual PDump CHexI CApFix XDesk
theorem indexV (c : UInt8) : Lib.indexByte hexD c = hexV c := by
  have key : ∀ i : Fin 256, Lib.indexByte hexD (UInt8.ofNat i.1) = hexV (UInt8.ofNat i.1) := by decide +kernel
  have := key ⟨c.toNat, UInt8.toNat_lt c⟩
  rwa [UInt8.ofNat_toNat] at this
theorem index_any (c : UInt8) (V : World) : Calls Tryz.prog 178 #[.string ⟨#[48, 49, 50, 51, 52, 53, 54, 55, 56, 57, 97, 98, 99, 100, 101, 102]⟩, .int .u8 (c.toNat : Int)] V (Pure (.int .i64 (hexV c)) V) := by
  have h := strings_IndexByte ⟨#[48, 49, 50, 51, 52, 53, 54, 55, 56, 57, 97, 98, 99, 100, 101, 102]⟩ (c.toNat : Int) V
  rw [show ((c.toNat : Int)).toNat.toUInt8 = c from by simp] at h
  rw [← indexV]
  refine h.mono ?_
  rintro e w' ⟨rfl, rfl⟩
  exact ⟨rfl, rfl⟩
theorem drop2 (s : ByteArray) (p : Nat) (h : p + 1 < s.size) : s.data.toList.drop p = (s[p]'(by omega)) :: (s[p + 1]'h) :: s.data.toList.drop (p + 2) := by
  have h1 : p < s.data.toList.length := by rw [Array.length_toList]; exact Nat.lt_of_succ_lt h
  have h2 : p + 1 < s.data.toList.length := by rw [Array.length_toList]; exact h
  rw [List.drop_eq_getElem_cons h1, List.drop_eq_getElem_cons h2]
  rfl
theorem unhex_odd : ∀ (l : List UInt8), l.length % 2 = 1 → unhex l = none
  | [], h => by cases h
  | [_], _ => rfl
  | a :: b :: r, h => by
    rw [unhex, unhex_odd r (by simp only [List.length_cons] at h; omega)]
    split <;> rfl
theorem unhex_step (s : ByteArray) (p : Nat) (h : p + 1 < s.size) (ys : List Int) (hu : unhex s.data.toList = (unhex (s.data.toList.drop p)).map (ys ++ ·)) :
    unhex s.data.toList = if hexV (s[p]'(by omega)) < 0 ∨ hexV (s[p + 1]'h) < 0 then none else (unhex (s.data.toList.drop (p + 2))).map ((ys ++ [16 * hexV (s[p]'(by omega)) + hexV (s[p + 1]'h)]) ++ ·) := by
  rw [hu, drop2 s p h, unhex]
  split
  · rfl
  · rw [Option.map_map]
    congr 1
    funext zs
    simp
theorem one_u8 (x : Int) : ∀ u ∈ [Value.int .u8 x], u.oneCell' = true := fun u hu => by
  rw [List.mem_singleton] at hu
  subst hu
  rfl
theorem wrap8 (y : Int) (h : 0 ≤ y ∧ y ≤ 255) : IntKind.u8.wrap y = y := by
  have key : ∀ i : Fin 256, IntKind.u8.wrap (i.1 : Int) = (i.1 : Int) := by decide +kernel
  obtain ⟨n, rfl⟩ := Int.eq_ofNat_of_zero_le h.1
  exact key ⟨n, by omega⟩
set_option maxHeartbeats 4000000 in
theorem readHex_any (s : ByteArray) (hs : s.size ≤ 1048576) (w : World) :
    Calls Tryz.prog 148 #[.string s] w (RetF (unhex s.data.toList) w) := by
  obtain ⟨i0, hi1, hi2, hi3, hi4⟩ := info_parts CBytes.info8
  have HI := hide (And.intro hi1 (And.intro hi2 (And.intro hi3 hi4)))
  clear hi1 hi2 hi3 hi4
  have HB := hide (show Below w.heap.size w (w.alloc (.cells #[] 5)) from (by repeat (first | exact Below.refl _ _ | with_reducible assumption | (refine Below.drew ?_) | (refine Below.drewN ?_ _) | (refine Below.alloc ?_ (by simp; try omega) _) | (refine Below.setCell ?_ (by simp; try omega) _))))
  by_cases hodd : s.size % 2 = 1
  · have HV := hide (unhex_odd s.data.toList (by rw [Array.length_toList]; exact hodd))
    have hm : ((s.size : Int)).tmod 2 = 1 := by
      rw [Int.tmod_eq_emod_of_nonneg (by omega)]
      omega
    go_enter Tryz.func148, Tryz.ntmps148
    go_wp2_with fail
    go_ret2
    rw [HV.out]
    exact ⟨_, _, _, rfl, HB.out, fun b h => by cases h⟩
  have hm : ((s.size : Int)).tmod 2 = 0 := by
    rw [Int.tmod_eq_emod_of_nonneg (by omega)]
    omega
  go_enter Tryz.func148, Tryz.ntmps148
  go_wp2_with fail
  generalize w.alloc (.cells #[] 5) = w0 at *
  go_loopw [4, 5] (fun v i wi => ∃ (p : Nat) (A1 : Option Addr) (c1 : Nat) (ys : List Int), p ≤ s.size ∧ p % 2 = 0 ∧ v = .slice A1 ys.length c1 ∧ i = .int .i64 p ∧ 2 * ys.length = p ∧ unhex s.data.toList = (unhex (s.data.toList.drop p)).map (ys ++ ·) ∧ Row wi w.heap.size 5 1 A1 ys.length c1 (ints .u8 ys) ∧ Below w.heap.size w wi) (fun _ i _ => s.size - (intOf i).toNat)
  case atStart => exact ⟨0, _, 0, [], Nat.zero_le _, rfl, rfl, rfl, rfl, by simp, Row.empty _ _ _ _ _, HB.out⟩
  case round =>
    rename World => wk
    clear HB
    obtain ⟨p, A1, c1, ys, hp, hp2, rfl, rfl, hyl, hu, hrow, hb⟩ := hrel
    have HU := hide hu
    have HL := hide hyl
    have hl2 : ys.length ≤ 1048576 := by omega
    have HW := hide hrow
    have HB := hide hb
    clear hu hrow hb hyl
    by_cases hlt : p < s.size
    · have hlt1 : p + 1 < s.size := by omega
      have HST := hide (unhex_step s p hlt1 ys HU.out)
      have HQ1 := hide (index_any (s[p]'hlt))
      have HQ2 := hide (index_any (s[p + 1]'hlt1))
      have hx := hexV_bd (s[p]'hlt)
      have hy := hexV_bd (s[p + 1]'hlt1)
      generalize hexV (s[p]'hlt) = x at *
      generalize hexV (s[p + 1]'hlt1) = y at *
      obtain ⟨hx1, hx2⟩ := hx
      obtain ⟨hy1, hy2⟩ := hy
      have hwp : IntKind.i64.wrap ((p : Int) + 1) = (p : Int) + 1 := IntWalk.i64_in _ (by omega)
      have htn : ((p : Int) + 1).toNat = p + 1 := by omega
      have hi1 : (p : Int) + 1 < (s.size : Int) := by omega
      have hi0 : (0 : Int) ≤ (p : Int) + 1 := by omega
      have hi2 : ¬ (p : Int) + 1 < 0 := by omega
      go_wp2_with fail
      go_quiet ((go_at_call 178; first | exact Pure.quiet (HQ1.out _) | exact Pure.quiet (HQ2.out _)))
      replace HW := hide (HW.out.drewN nq)
      replace HB := hide (Kit.Below.drewN HB.out nq)
      generalize wk.drewN nq = wd at *
      clear HQ1 HQ2 hm hodd
      by_cases hx0 : x < 0
      · have HV := hide (HST.out.trans (if_pos (Or.inl hx0)))
        have hd : decide (x < 0) = true := decide_eq_true hx0
        go_wp2_with fail
        go_ret2
        rw [HV.out]
        exact ⟨_, _, _, rfl, HB.out, fun b h => by cases h⟩
      by_cases hy0 : y < 0
      · have HV := hide (HST.out.trans (if_pos (Or.inr hy0)))
        have hd : decide (x < 0) = false := decide_eq_false hx0
        have hd2 : decide (y < 0) = true := decide_eq_true hy0
        go_wp2_with fail
        go_ret2
        rw [HV.out]
        exact ⟨_, _, _, rfl, HB.out, fun b h => by cases h⟩
      have HV := hide (HST.out.trans (if_neg (by omega)))
      clear HST HU
      have hx0' : 0 ≤ x := by omega
      have hy0' : 0 ≤ y := by omega
      have hd : decide (x < 0) = false := decide_eq_false hx0
      have hd2 : decide (y < 0) = false := decide_eq_false hy0
      have hw1 : IntKind.i64.wrap (16 * x) = 16 * x := IntWalk.i64_in _ (by omega)
      have hw2 : IntKind.i64.wrap (16 * x + y) = 16 * x + y := IntWalk.i64_in _ (by omega)
      have hw3 : IntKind.u8.wrap (16 * x + y) = 16 * x + y := wrap8 _ (by omega)
      have BA : Below wd.heap.size wd (wd.alloc (.cells #[.int .u8 (16 * x + y)] 5)) := (by repeat (first | exact Below.refl _ _ | with_reducible assumption | (refine Below.drew ?_) | (refine Below.drewN ?_ _) | (refine Below.alloc ?_ (by simp; try omega) _) | (refine Below.setCell ?_ (by simp; try omega) _)))
      replace HB := hide (HB.out.trans (BA.mono HB.out.size))
      replace HW := hide (HW.out.call BA)
      clear BA
      go_wp2_with (at_builtin; refine wpList_app (wd.alloc (.cells #[.int .u8 (16 * x + y)] 5)) rfl (.tmp 34) (.tmp 40) 22 rfl 5 i0 (.int .u8 0) 1 1 Tryz.underlying22 HI.out.1 HI.out.2.1 HI.out.2.2.1 HI.out.2.2.2 rfl (by decide) w.heap.size A1 ys.length c1 (ints .u8 ys) rfl HW.out HB.out.size (some ⟨wd.heap.size, 0, none⟩) 1 1 [.int .u8 (16 * x + y)] rfl (rd_lit wd #[.int .u8 (16 * x + y)] 5 _ rfl) rfl (fun h => by cases h) (one_u8 _) ?n1 ?n2 ?_)
      case n1 => unfold maxLen; omega
      case n2 => omega
      intro A9 n9 c9 wz hn9 o9 g9 k9
      subst hn9
      have HB9 := hide (HB.out.grown g9 HB.out.size (fun j hj => (HW.out.lt j hj).1))
      have HW9 := hide (show Row wz w.heap.size 5 1 A9 (ys ++ [16 * x + y]).length c9 (ints .u8 (ys ++ [16 * x + y])) from by
        rw [List.length_append, show ints .u8 (ys ++ [16 * x + y]) = ints .u8 ys ++ [.int .u8 (16 * x + y)] from by simp [ints]]
        exact o9)
      have hq := HL.out
      have HLN9 := hide (show 2 * (ys ++ [16 * x + y]).length = p + 2 from by rw [List.length_append]; simp only [List.length_singleton]; omega)
      have hp22 : (p + 2) % 2 = 0 := by omega
      have hp3 : p + 2 ≤ s.size := by omega
      clear o9 g9 k9 HW HB hq
      generalize hG : ys ++ [16 * x + y] = zs at *
      have hzl : zs.length = ys.length + 1 := by rw [← hG]; simp
      rw [← hzl]
      clear hG hzl
      go_wp2_with fail
      refine ⟨⟨p + 2, A9, c9, zs, hp3, hp22, rfl, by go_num, HLN9.out, HV.out, HW9.out, HB9.out⟩, by simp [intOf]; omega⟩
    · have hpe : p = s.size := by omega
      have HV := hide (show unhex s.data.toList = some ys from by
        rw [HU.out, List.drop_eq_nil_of_le (by rw [Array.length_toList]; exact Nat.le_of_eq hpe.symm)]
        simp [unhex])
      clear hpe
      go_wp2_with fail
      go_ret2
      rw [HV.out]
      exact ⟨A1, c1, ys.length, rfl, HB.out, fun b h => by cases h; exact ⟨rfl, HW.out⟩⟩
end Go.Proofs.YtepoiphmmjfbdaaGreatDoor.CUnhexI
/- An object that grows: a fixup is put behind the last section's last. -/
namespace Go.Proofs.YtepoiphmmjfbdaaGreatDoor.BObj3
set_option maxRecDepth 200000
open Go.ChangeShapes Go.WideShapes Go.ChangeAt Go.RowKit Kit CFixups CSymbols PObj BObj CMarkRows BObj2 BStore
theorem sec_set (ps : List SV) (p : SV) (F' : Option Addr) (n' c' : Nat) (fs' : List FD) (hn : n' = fs'.length) :
    (cellsOf secC (ps ++ [p])).set (ps.length * 6 + 5) (.slice F' n' c') = cellsOf secC (ps ++ [{ p with F := F', fs := fs', fc := c' }]) := by
  subst hn
  have hl : (cellsOf secC ps).length = ps.length * 6 := cellsOf_len secC_len ps
  rw [cells_snoc, cells_snoc, List.set_append_right _ _ (by rw [hl]; omega), hl, Nat.add_sub_cancel_left]
  rfl
theorem secF_cell {w : World} {base : Nat} {o : OV} {ps : List SV} {p : SV} (h : OwnO w base o) (hps : o.ps = ps ++ [p]) :
    ∃ b, o.A = some ⟨b, 0, none⟩ ∧ base ≤ b ∧ b < w.heap.size ∧ oblk o b ∧ w.cell? ⟨b, ps.length * 6 + 5, none⟩ = some (.slice p.F p.fs.length p.fc) := by
  have hlen : o.ps.length = ps.length + 1 := by rw [hps]; simp
  obtain ⟨b, hA, hb0, hb1, hbk, hown⟩ := own_of h.1.1 (by omega)
  have hcl : (cellsOf secC ps).length = ps.length * 6 := cellsOf_len secC_len ps
  have hcell := World.ownsRow.cellAt hown (ps.length * 6 + 5) (by omega)
  have hget : (cellsOf secC o.ps)[ps.length * 6 + 5]? = some (.slice p.F p.fs.length p.fc) := by
    rw [hps, cells_snoc, List.getElem?_append_right (by rw [hcl]; omega), hcl, Nat.add_sub_cancel_left]
    rfl
  rw [hget] at hcell
  exact ⟨b, hA, hb0, hb1, .inl (.inl hbk), hcell⟩
theorem addF_own {w w' : World} {base : Nat} {o : OV} {ps : List SV} {p : SV} {f : FD} (h : OwnO w base o) (hps : o.ps = ps ++ [p]) {F' : Option Addr} {n' c' : Nat} (hn : n' = p.fs.length + 1)
    (row : Row w' base 65 4 F' n' c' (cellsOf fixupC p.fs ++ fixupC f)) (g : w.grownBy w' (blk p.F p.fc)) (hk : ∀ k, blk F' c' = some k → blk p.F p.fc = some k ∨ w.heap.size ≤ k) :
    ∃ b, o.A = some ⟨b, 0, none⟩ ∧ base ≤ b ∧ w'.cell? ⟨b, ps.length * 6 + 5, none⟩ = some (.slice p.F p.fs.length p.fc) ∧ w'.frozen? ⟨b, ps.length * 6 + 5, none⟩ = false ∧
      OwnO (w'.setCell ⟨b, ps.length * 6 + 5, none⟩ (.slice F' n' c')) base { o with ps := ps ++ [{ p with F := F', fs := p.fs ++ [f], fc := c' }] } ∧ (∀ k, oblk { o with ps := ps ++ [{ p with F := F', fs := p.fs ++ [f], fc := c' }] } k → oblk o k ∨ w.heap.size ≤ k) := by
  have hp : p ∈ o.ps := by rw [hps]; simp
  have hrow : Row w' base 61 6 o.A o.ps.length o.c (cellsOf secC o.ps) := h.1.1.grown g (fun k hk' => apartT h.1.1 (h.1.2.1 p hp).2 (by decide) k hk')
  have hlen : o.ps.length = ps.length + 1 := by rw [hps]; simp
  obtain ⟨b, hA, hb0, hb1, hbk, hown⟩ := own_of hrow (by omega)
  have hcl : (cellsOf secC ps).length = ps.length * 6 := cellsOf_len secC_len ps
  have hget : (cellsOf secC o.ps)[ps.length * 6 + 5]? = some (.slice p.F p.fs.length p.fc) := by
    rw [hps, cells_snoc, List.getElem?_append_right (by rw [hcl]; omega), hcl, Nat.add_sub_cancel_left]
    rfl
  have hbox : ∃ cs, Box w' b 61 cs := box_of_own hown
  obtain ⟨cs, hbox⟩ := hbox
  have hYn : ∀ k, blk o.Y o.yc = some k → k ≠ b := by
    have hY : Row w' base 67 4 o.Y o.ys.length o.yc (cellsOf symbolC o.ys) := h.2.grown g (fun k hk' => apartT h.2 (h.1.2.1 p hp).2 (by decide) k hk')
    exact hY.box hbox (by decide)
  have hrw : ∀ q ∈ o.ps, Row w' base 5 1 q.A q.zs.length q.c (ints .u8 q.zs) := fun q hq => (h.1.2.1 q hq).1.grown g (fun k hk' => apartT (h.1.2.1 q hq).1 (h.1.2.1 p hp).2 (by decide) k hk')
  have hpw := h.1.2.2
  rw [hps] at hpw
  have hpw' := List.pairwise_append.1 hpw
  have hrf : ∀ q ∈ ps, Row w' base 65 4 q.F q.fs.length q.fc (cellsOf fixupC q.fs) := fun q hq => (h.1.2.1 q (by rw [hps]; simp [hq])).2.grown g (fun k hk' e => (hpw'.2.2 q hq p (by simp)).2 k hk' e)
  have hs : ∀ (q : SV), RwS w' base q → RwS (w'.setCell ⟨b, ps.length * 6 + 5, none⟩ (.slice F' n' c')) base q := fun q hq => hq.set (a := ⟨b, ps.length * 6 + 5, none⟩) (hq.box hbox (by decide) (by decide)) _
  have hcell := World.ownsRow.cellAt hown (ps.length * 6 + 5) (by omega)
  have hq : RwS w' base { p with F := F', fs := p.fs ++ [f], fc := c' } := by
    refine ⟨hrw p hp, ?_⟩
    show Row w' base _ 4 F' (p.fs ++ [f]).length c' (cellsOf fixupC (p.fs ++ [f]))
    rw [List.length_append, show cellsOf fixupC (p.fs ++ [f]) = cellsOf fixupC p.fs ++ fixupC f by simp [cellsOf]]
    subst hn
    exact row
  refine ⟨b, hA, hb0, ?_, World.ownsRow.frozenAt hown _, ⟨⟨?_, ?_, ?_⟩, ?_⟩, ?_⟩
  · have := hcell
    rw [hget] at this
    exact this
  · have hst := (World.ownsRow.stored hown (ps.length * 6 + 5) (.slice F' n' c')).1
    have e : (cellsOf secC o.ps).set (ps.length * 6 + 5) (.slice F' n' c') = cellsOf secC (ps ++ [{ p with F := F', fs := p.fs ++ [f], fc := c' }]) := by
      rw [hps]
      exact sec_set ps p F' n' c' (p.fs ++ [f]) (by rw [hn]; simp)
    rw [e] at hst
    show Row _ base _ 6 o.A (ps ++ [_]).length o.c _
    rw [hA, List.length_append]
    rw [hlen] at hst
    exact .inr hst
  · intro q hq'
    rcases List.mem_append.1 hq' with hq' | hq'
    · exact hs q ⟨hrw q (by rw [hps]; simp [hq']), hrf q hq'⟩
    · obtain rfl := List.mem_singleton.1 hq'
      exact hs _ hq
  · refine List.pairwise_append.2 ⟨hpw'.1, List.pairwise_singleton _ _, fun a ha c hc => ?_⟩
    obtain rfl := List.mem_singleton.1 hc
    have hap := hpw'.2.2 a ha p (by simp)
    refine ⟨hap.1, fun k hka hkf => ?_⟩
    rcases hk k hkf with h1 | h1
    · exact hap.2 k hka h1
    · have := ((h.1.2.1 a (by rw [hps]; simp [ha])).2.lt k hka).2
      omega
  · have hY : Row w' base 67 4 o.Y o.ys.length o.yc (cellsOf symbolC o.ys) := h.2.grown g (fun k hk' => apartT h.2 (h.1.2.1 p hp).2 (by decide) k hk')
    exact hY.set (a := ⟨b, ps.length * 6 + 5, none⟩) hYn _
  · rintro k ((h1 | ⟨q, hq', h1⟩) | h1)
    · exact .inl (.inl (.inl h1))
    · rcases List.mem_append.1 hq' with hq' | hq'
      · exact .inl (.inl (.inr ⟨q, by rw [hps]; simp [hq'], h1⟩))
      · obtain rfl := List.mem_singleton.1 hq'
        rcases h1 with h1 | h1
        · exact .inl (.inl (.inr ⟨p, hp, .inl h1⟩))
        · rcases hk k h1 with h2 | h2
          · exact .inl (.inl (.inr ⟨p, hp, .inr h2⟩))
          · exact .inr h2
    · exact .inl (.inr h1)
end Go.Proofs.YtepoiphmmjfbdaaGreatDoor.BObj3
/- slices.Delete(words, 1, 2) of five own words. -/
namespace Go.Proofs.YtepoiphmmjfbdaaGreatDoor.CDelI
set_option maxRecDepth 200000
open Go.ChangeShapes Go.WideShapes Go.ChangeAt Go.RowKit Kit CNumTxt PNum PDump CHexI CHexS CSorted CNames CWordsS BStore BDesk
theorem enc_bs (ws : List (List UInt8)) : nmC (ws.map bs) = ws.map encStr := by
  rw [strs_enc]
  congr 1
  unfold bytesOf
  rw [List.map_map]
  have : (fun x : List UInt8 => x) = id := rfl
  simp [Function.comp_def, bs]
theorem delete_any (ws : List (List UInt8)) (h5 : ws.length = 5) (A : Option Addr) (c : Nat) (W w : World) (h : Row w W.heap.size 9 1 A 5 c (nmC (ws.map bs))) (hb : Below W.heap.size W w) (hc : c ≤ 9223372036854775807) :
    Calls Tryz.prog 146 #[.slice A 5 c, .int .i64 1, .int .i64 2] w fun e w' => e = .returned (.slice A 4 c) ∧ Row w' W.heap.size 9 1 A 4 c (nmC ((ws.take 1 ++ ws.drop 2).map bs)) ∧ Below W.heap.size W w' := by
  obtain ⟨g, rfl, hb1, hb2, _, hown⟩ := own_of h (by omega)
  have hcap := h.cap.1
  rw [enc_bs] at hown
  obtain ⟨g', cap, hv, _, _, _, _, hl, hH⟩ := Lib.holds_of_ownsRow hown (by intro e; cases e)
  injection hv with e1 _ e3
  simp only [Option.some.injEq, Addr.mk.injEq, and_true] at e1
  subst e1 e3
  have hC := XDesk.slices_Delete_string g 0 c 1 2 ws w hH (by omega) hc (by omega) (by omega)
  rw [h5] at hC
  refine hC.mono ?_
  rintro e w' ⟨rfl, q, rfl⟩
  have ho := Lib.ownsRow_putRow (q := q) (k := 4) (ys := ws.take 1 ++ ws.drop 2 ++ List.replicate (2 - 1) []) hown (by simp; omega) (by omega)
  rw [List.take_left' (by simp; omega)] at ho
  refine ⟨rfl, ?_, Lib.below_putRow hb hb1⟩
  rw [enc_bs]
  exact .inr ho
end Go.Proofs.YtepoiphmmjfbdaaGreatDoor.CDelI
