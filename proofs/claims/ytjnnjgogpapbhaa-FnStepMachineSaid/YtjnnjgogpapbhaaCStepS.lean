/- Contract of StepMachine, the reference's. -/
import Derived.Test.YtjnnjgogpapbhaaPStep
import Derived.Test.YtjnnjgogpapbhaaBReg
import Derived.Deep.Cut
import Derived.Deep.RegionHeld3
namespace Go.Proofs.Ytjnnjgogpapbhaa.CStepS
set_option maxRecDepth 200000
open Go.ChangeShapes Go.WideShapes Go.ChangeAt Go.RowKit Kit CCode CMachine CMachines CInts CPutCode CStep CDo CStepI PStep
set_option maxHeartbeats 8000000 in
theorem stepMachineS_go (at_ : Int) (S C A : Option Addr) (st ca zs : List Int) (cs cc c : Nat) (w : World) (hs : Rd w w.heap.size S (ints .i64 st)) (hc : Rd w w.heap.size C (ints .i64 ca)) (hr : Rd w w.heap.size A (ints .u8 zs)) (hz : InR 0 255 zs) (hsm : st.length ≤ 1048576) (hcm : ca.length ≤ 1048576) (hzm : zs.length ≤ 1048576) (hns : S = none → cs = 0) (hnc : C = none → cc = 0) :
    Calls Try.prog 23 #[.agg #[.int .i64 at_, .slice S st.length cs, .slice C ca.length cc], .slice A zs.length c] w (SteppedM (stepMS at_ st ca zs) w) := by
  obtain ⟨i0, hi, hz0, hz1, hz2⟩ := info_parts info64
  have a1 := (Box.new w 25 #[.int .i64 at_, .slice S st.length cs, .slice C ca.length cc]).alloc (.cells #[.int .i64 0, .slice none 0 0, .slice none 0 0] 25)
  have a2 := Box.new (w.alloc (.cells #[.int .i64 at_, .slice S st.length cs, .slice C ca.length cc] 25)) 25 #[.int .i64 0, .slice none 0 0, .slice none 0 0]
  have B0 : Below w.heap.size w ((w.alloc (.cells #[.int .i64 at_, .slice S st.length cs, .slice C ca.length cc] 25)).alloc (.cells #[.int .i64 0, .slice none 0 0, .slice none 0 0] 25)) := (by repeat (first | exact Below.refl _ _ | with_reducible assumption | (refine Below.drew ?_) | (refine Below.drewN ?_ _) | (refine Below.alloc ?_ (by simp; try omega) _) | (refine Below.setCell ?_ (by simp; try omega) _)))
  simp only [World.size_alloc] at a2
  have HR := hide (And.intro hs (And.intro hc hr))
  have HZ := hide hz
  have HB := hide B0
  have hsm' : st.length ≤ maxLen := by unfold maxLen; omega
  have hcm' : ca.length ≤ maxLen := by unfold maxLen; omega
  have HV := hide (fun W h h' => machineValidS_any at_ S C st ca cs cc W h h' hsm' hcm')
  have HC := hide (fun W h h' => l30Copy_any at_ S C st ca cs cc W h h' hsm hcm hns hnc)
  clear hs hc hr hns hnc hz B0 hsm' hcm'
  go_enter Try.func23, Try.ntmps23
  go_wp2_with fail
  generalize ((w.alloc (.cells #[.int .i64 at_, .slice S st.length cs, .slice C ca.length cc] 25)).alloc (.cells #[.int .i64 0, .slice none 0 0, .slice none 0 0] 25)) = w0 at *
  have HA := hide (And.intro a1 a2)
  clear a1 a2
  refine (HV.out _ ((HR.out.1.below HB.out).more HB.out.size) ((HR.out.2.1.below HB.out).more HB.out.size)).mono ?_
  rintro e w1 ⟨rfl, b1⟩
  have HA1 := hide (And.intro (HA.out.1.call b1) (HA.out.2.call b1))
  have HB1 := hide (HB.out.trans (b1.mono HB.out.size))
  clear b1 HA HB
  cases hv : machOk at_ st ca
  · have HE := hide (show stepMS at_ st ca zs = (0, [], [], 2) by unfold stepMS; rw [hv]; rfl)
    clear hv
    have y0 := HA1.out.2.cell 0
    have y1 := HA1.out.2.cell 1
    have y2 := HA1.out.2.cell 2
    have f0 := HA1.out.2.frozen 0
    have f1 := HA1.out.2.frozen 1
    have f2 := HA1.out.2.frozen 2
    simp only [List.getElem?_toArray, List.getElem?_cons_zero, List.getElem?_cons_succ] at y0 y1 y2
    have HF := hide (stepM_end (w := w) (w1 := w1) (n := 0) (r := 2) (S := none) (C := none) (cs := 0) (cc := 0) (st := []) (ca := []) ⟨Row.empty _ _ _ _ _, Row.empty _ _ _ _ _, fun k hk => by cases hk⟩ HB1.out HA1.out.2 (Nat.le_succ _))
    have Z := put3_box HA1.out.2 (.int .i64 0) (.slice none 0 0) (.slice none 0 0)
    have e0 := Z.cell 0
    have e1 := Z.cell 1
    have e2 := Z.cell 2
    simp only [List.getElem?_toArray, List.getElem?_cons_zero, List.getElem?_cons_succ] at e0 e1 e2
    clear Z
    go_wp2_with fail
    rw [HE.out]
    exact bodyPost_ret (v := .tuple #[.agg #[.int .i64 0, .slice none 0 0, .slice none 0 0], .int .i64 2]) (by simp [results, Try.results23, go_sem, e0, e1, e2]) rfl HF.out
  · have HE := hide (show stepMS at_ st ca zs = stepS at_ st ca (gcode zs at_) by unfold stepMS; rw [hv]; rfl)
    have HK := hide (machOk_bd hv)
    have HG := hide (gcode_bd zs at_)
    have HXY := hide (And.intro HA1.out.1.lt HA1.out.2.lt)
    clear hv
    have q0 := HA1.out.1.cell 0
    have q1 := HA1.out.1.cell 1
    have q2 := HA1.out.1.cell 2
    simp only [List.getElem?_toArray, List.getElem?_cons_zero, List.getElem?_cons_succ] at q0 q1 q2
    go_wp2_with fail
    refine (HC.out w1 ((HR.out.1.below HB1.out).more HB1.out.size) ((HR.out.2.1.below HB1.out).more HB1.out.size)).mono ?_
    rintro e w2 ⟨S2, C2, cs2, cc2, rfl, O2, b2⟩
    have ba : Below w2.heap.size w2 (w2.alloc (.cells #[.int .i64 at_, .slice S2 st.length cs2, .slice C2 ca.length cc2] 25)) := (Below.refl _ _).alloc (Nat.le_refl _) _
    have HM2 := hide (show MM (w2.alloc (.cells #[.int .i64 at_, .slice S2 st.length cs2, .slice C2 ca.length cc2] 25)) w1.heap.size w2.heap.size at_ S2 cs2 st C2 cc2 ca from ⟨Box.new w2 _ _, Rows2.call O2 ba, b2.size⟩)
    have b2' := b2.trans (ba.mono b2.size)
    have HA2 := hide (And.intro (HA1.out.1.call b2') (HA1.out.2.call b2'))
    have HB2 := hide (HB1.out.trans (b2'.mono HB1.out.size))
    have hz2' : w2.heap.size < (w2.alloc (.cells #[.int .i64 at_, .slice S2 st.length cs2, .slice C2 ca.length cc2] 25)).heap.size := by simp
    have HH := hide HB1.out.size
    clear q0 q1 q2
    have hA2 := HA1.out.1.call b2
    have hlx := hA2.lt
    have hly := (HA1.out.2.call b2).lt
    have HI2 := hide b2.size
    have q0 := hA2.cell 0
    have q1 := hA2.cell 1
    have q2 := hA2.cell 2
    simp only [List.getElem?_toArray, List.getElem?_cons_zero, List.getElem?_cons_succ] at q0 q1 q2
    clear b2 ba b2' O2 hA2
    go_wp2_with fail
    refine (getCodeS_any A zs c at_ _ ((HR.out.2.2.below HB2.out).more HB2.out.size) HZ.out hzm).mono ?_
    rintro e w3 ⟨rfl, b3⟩
    generalize gcode zs at_ = G at *
    obtain ⟨d, a, nx⟩ := G
    simp only [gval]
    have HM3 := hide ((HM2.out.call b3).at_ nx)
    have hAA := HA2.out.1.call b3
    have hAB := HA2.out.2.call b3
    have hne1 : w.heap.size ≠ w2.heap.size := by have := hlx; omega
    have hne2 : w.heap.size + 1 ≠ w2.heap.size := by have := hly; omega
    have hBB := (HB2.out.trans (b3.mono HB2.out.size)).setCell (p := ⟨w2.heap.size, 0, none⟩) (Nat.le_trans HH.out HI2.out) (.int .i64 nx)
    have HA3 := hide (And.intro (hAA.far (p := ⟨w2.heap.size, 0, none⟩) hne1 (.int .i64 nx)) (hAB.far (p := ⟨w2.heap.size, 0, none⟩) hne2 (.int .i64 nx)))
    obtain ⟨m0, m1, m2, f0, f1, f2⟩ := (HM2.out.call b3).cells
    have hz3 := (HM2.out.call b3).1.lt
    have r0 := hAA.cell 0
    have r1 := hAA.cell 1
    have r2 := hAA.cell 2
    simp only [List.getElem?_toArray, List.getElem?_cons_zero, List.getElem?_cons_succ] at r0 r1 r2
    have hlx3 := hAA.lt
    clear q0 q1 q2 hAA hAB b3
    have hX3 := Box.new (w3.setCell ⟨w2.heap.size, 0, none⟩ (.int .i64 nx)) 78 #[.int .i64 d, .int .i64 a]
    have hT : (w3.setCell ⟨w2.heap.size, 0, none⟩ (.int .i64 nx)).heap.size = w3.heap.size := by simp [World.setCell]
    rw [hT] at hX3
    have b4 : Below (w3.setCell ⟨w2.heap.size, 0, none⟩ (.int .i64 nx)).heap.size (w3.setCell ⟨w2.heap.size, 0, none⟩ (.int .i64 nx)) ((w3.setCell ⟨w2.heap.size, 0, none⟩ (.int .i64 nx)).alloc (.cells #[.int .i64 d, .int .i64 a] 78)) := below_al (Below.refl _ _)
    have HM4 := hide (HM3.out.call b4)
    have HA4 := hide (And.intro (HA3.out.1.call b4) (HA3.out.2.call b4))
    have HX4 := hide hX3
    have HB4 := hide (hBB.trans (b4.mono hBB.size))
    clear b4 hX3 hT hBB
    go_upto_region 8 with (fail)
    generalize ((w3.setCell ⟨w2.heap.size, 0, none⟩ (.int .i64 nx)).alloc (.cells #[.int .i64 d, .int .i64 a] 78)) = w4 at *
    clear m0 m1 m2 f0 f1 f2 r0 r1 r2 hlx3 hz3 HM3 HA3 HA2 HB2 HM2 HA1 hne1 hne2 hlx hly
    have q0 := HA4.out.1.cell 0
    have q1 := HA4.out.1.cell 1
    have q2 := HA4.out.1.cell 2
    simp only [List.getElem?_toArray, List.getElem?_cons_zero, List.getElem?_cons_succ] at q0 q1 q2
    have x0 := HX4.out.cell 0
    have x1 := HX4.out.cell 1
    simp only [List.getElem?_toArray, List.getElem?_cons_zero, List.getElem?_cons_succ] at x0 x1
    by_cases hn : nx < 0
    · have HE2 := hide (show stepMS at_ st ca zs = (at_, st, ca, 2) by rw [HE.out, stepS, if_pos hn])
      go_wp2_with fail
      refine (HC.out _ ((HR.out.1.below HB4.out).more HB4.out.size) ((HR.out.2.1.below HB4.out).more HB4.out.size)).mono ?_
      rintro e w8 ⟨S8, C8, cs8, cc8, rfl, O8, b8⟩
      have HA8 := hide (And.intro (HA4.out.1.call b8) (HA4.out.2.call b8))
      have HF := hide (stepM_end (n := at_) (r := 2) ⟨O8.1.down HB4.out.size, O8.2.1.down HB4.out.size, O8.2.2⟩ (HB4.out.trans (b8.mono HB4.out.size)) HA8.out.2 (Nat.le_succ _))
      clear O8 b8
      have y0 := HA8.out.2.cell 0
      have y1 := HA8.out.2.cell 1
      have y2 := HA8.out.2.cell 2
      simp only [List.getElem?_toArray, List.getElem?_cons_zero, List.getElem?_cons_succ] at y0 y1 y2
      have f0 := HA8.out.2.frozen 0
      have f1 := HA8.out.2.frozen 1
      have f2 := HA8.out.2.frozen 2
      have Z8 := put3_box HA8.out.2 (.int .i64 at_) (.slice S8 st.length cs8) (.slice C8 ca.length cc8)
      have e0 := Z8.cell 0
      have e1 := Z8.cell 1
      have e2 := Z8.cell 2
      simp only [List.getElem?_toArray, List.getElem?_cons_zero, List.getElem?_cons_succ] at e0 e1 e2
      clear Z8
      go_wp2_with fail
      rw [HE2.out]
      exact bodyPost_ret (v := .tuple #[.agg #[.int .i64 at_, .slice S8 st.length cs8, .slice C8 ca.length cc8], .int .i64 2]) (by simp [results, Try.results23, go_sem, e0, e1, e2]) rfl HF.out
    have hn' : decide (nx < 0) = false := by simpa using hn
    by_cases h0 : d = 0
    · subst h0
      have HE2 := hide (show stepMS at_ st ca zs = (at_, st, ca, 1) by rw [HE.out, stepS, if_neg hn, if_pos rfl])
      clear hn
      go_wp2_with fail
      refine (HC.out _ ((HR.out.1.below HB4.out).more HB4.out.size) ((HR.out.2.1.below HB4.out).more HB4.out.size)).mono ?_
      rintro e w8 ⟨S8, C8, cs8, cc8, rfl, O8, b8⟩
      have HA8 := hide (And.intro (HA4.out.1.call b8) (HA4.out.2.call b8))
      have HF := hide (stepM_end (n := at_) (r := 1) ⟨O8.1.down HB4.out.size, O8.2.1.down HB4.out.size, O8.2.2⟩ (HB4.out.trans (b8.mono HB4.out.size)) HA8.out.2 (Nat.le_succ _))
      clear O8 b8
      have y0 := HA8.out.2.cell 0
      have y1 := HA8.out.2.cell 1
      have y2 := HA8.out.2.cell 2
      simp only [List.getElem?_toArray, List.getElem?_cons_zero, List.getElem?_cons_succ] at y0 y1 y2
      have f0 := HA8.out.2.frozen 0
      have f1 := HA8.out.2.frozen 1
      have f2 := HA8.out.2.frozen 2
      have Z8 := put3_box HA8.out.2 (.int .i64 at_) (.slice S8 st.length cs8) (.slice C8 ca.length cc8)
      have e0 := Z8.cell 0
      have e1 := Z8.cell 1
      have e2 := Z8.cell 2
      simp only [List.getElem?_toArray, List.getElem?_cons_zero, List.getElem?_cons_succ] at e0 e1 e2
      clear Z8
      go_wp2_with fail
      rw [HE2.out]
      exact bodyPost_ret (v := .tuple #[.agg #[.int .i64 at_, .slice S8 st.length cs8, .slice C8 ca.length cc8], .int .i64 1]) (by simp [results, Try.results23, go_sem, e0, e1, e2]) rfl HF.out
    have HE4 := hide (show stepMS at_ st ca zs = (match doS nx st ca d a with | some (n, s, c) => (if machOk n s c then (n, s, c, (0 : Int)) else (at_, st, ca, (2 : Int))) | none => (at_, st, ca, (2 : Int))) by rw [HE.out, stepS, if_neg hn, if_neg h0]; rfl)
    have hok := HG.out (Int.not_lt.1 hn)
    have hd : d = 1 ∨ d = 2 ∨ d = 3 ∨ d = 4 ∨ d = 5 ∨ d = 6 ∨ d = 7 := by
      simp only [codeOk, decide_eq_true_eq] at hok
      omega
    obtain ⟨m0, m1, m2, f0, f1, f2⟩ := HM4.out.cells
    have hX1 := HM4.out.1.lt
    have hX2 := HX4.out.lt
    have hX3 := HA4.out.1.lt
    have hsz : w1.heap.size ≤ w4.heap.size := Nat.le_trans HM4.out.2.2 (Nat.le_of_lt hX1)
    have hl8 := HK.out.2.1
    have hc8 := HK.out.2.2.1
    have hXZ : w3.heap.size ≠ w2.heap.size := by
      intro hh
      have h1 := HX4.out
      rw [hh] at h1
      have h2 := h1.symm.trans HM4.out.1
      simp at h2
    clear hn h0 hok
    rcases hd with rfl | rfl | rfl | rfl | rfl | rfl | rfl
    · have HS := hide (show doS nx st ca 1 a = some (nx, st ++ [a], ca) from rfl)
      go_wp2_with (at_builtin; refine wpList_app (w4.alloc (.cells #[.int .i64 a] 3)) rfl (.tmp 47) (.tmp 50) 23 rfl 3 i0 (.int .i64 0) 1 8 Try.underlying23 hi hz0 hz1 hz2 rfl (by decide) w1.heap.size S2 st.length cs2 (ints .i64 st) rfl (HM4.out.2.1.1.alloc _) ?hb _ 1 1 [.int .i64 a] rfl (rd_lit w4 #[.int .i64 a] 3 _ rfl) rfl (fun h => by cases h) oneI1 ?n1 ?n2 ?_)
      case hb => exact Nat.le_trans hsz (by simp)
      case n1 => unfold maxLen; omega
      case n2 => omega
      intro A5 n5 c5 w5 hn5 o5 g5 k5
      have hd5 := apart_app (w := w4) HM4.out.2.1.2.2 (fun k hk => (k5 k hk).imp id (fun h => by omega)) (fun k hk => (HM4.out.2.1.2.1.lt k hk).2)
      have G5 := MM.grownS (MM.call HM4.out (by (repeat (first | with_reducible assumption | with_reducible exact Below.refl _ _ | with_reducible apply below_al | with_reducible apply below_dr | with_reducible apply below_dn)); done)) g5
      have b5 := below_step (base := w1.heap.size) (w1 := w4) (by (repeat (first | with_reducible assumption | with_reducible exact Below.refl _ _ | with_reducible apply below_al | with_reducible apply below_dr | with_reducible apply below_dn)); done) g5 hsz (fun k hk => (HM4.out.2.1.1.lt k hk).1)
      clear m0 m1 m2 f0 f1 f2 x0 x1 hX1 hX2
      have m0 := G5.1.cell 0
      have m1 := G5.1.cell 1
      have m2 := G5.1.cell 2
      have f1 := G5.1.frozen 1
      simp only [List.getElem?_toArray, List.getElem?_cons_zero, List.getElem?_cons_succ] at m0 m1 m2
      have b6 := b5.setCell (p := ⟨w2.heap.size, 1, none⟩) HM4.out.2.2 (.slice A5 n5 c5)
      have M6 := MM.mkS G5.1 HM4.out.2.2 G5.2 (A := A5) (m := n5) (c := c5) (xs := st ++ [a]) (by rw [hn5]; simp) (by simpa [ints] using o5) hd5
      have HM6 := hide M6
      have HA6 := hide (And.intro (HA4.out.1.below b6 HXY.out.1) (HA4.out.2.below b6 HXY.out.2))
      have HB6 := hide (HB4.out.trans (b6.mono HH.out))
      clear b6
      have hX1 := G5.1.lt
      have HNN := hide (show n5 = (st ++ [a]).length by rw [hn5]; simp)
      clear hn5 o5 g5 k5 hd5 G5 b5 M6 q0 q1 q2
      generalize st ++ [a] = s5 at *
      obtain rfl := HNN.out
      go_wp2_with fail
      clear m0 m1 m2 f1
      have HE5 := hide (show stepMS at_ st ca zs = if machOk nx s5 ca then (nx, s5, ca, (0 : Int)) else (at_, st, ca, (2 : Int)) by rw [HE4.out, HS.out])
      have hls : (s5).length ≤ maxLen := Nat.le_trans HM6.out.2.1.1.cap.1 HM6.out.2.1.1.cap.2
      have hlc : (ca).length ≤ maxLen := Nat.le_trans HM6.out.2.1.2.1.cap.1 HM6.out.2.1.2.1.cap.2
      refine (machineValidS_any _ _ _ (s5) (ca) _ _ _ HM6.out.2.1.1.rd HM6.out.2.1.2.1.rd hls hlc).mono ?_
      rintro e w7 ⟨rfl, b7⟩
      have HA7 := hide (And.intro (HA6.out.1.call b7) (HA6.out.2.call b7))
      have HB7 := hide (HB6.out.trans (b7.mono HB6.out.size))
      have HM7 := hide (HM6.out.call b7)
      clear b7 hls hlc
      try clear q0 q1 q2
      try clear m0 m1 m2
      cases hk : machOk nx s5 ca
      · rw [hk] at HE5
        have HE6 := hide (show stepMS at_ st ca zs = (at_, st, ca, 2) from HE5.out)
        clear hk
        have q0 := HA7.out.1.cell 0
        have q1 := HA7.out.1.cell 1
        have q2 := HA7.out.1.cell 2
        simp only [List.getElem?_toArray, List.getElem?_cons_zero, List.getElem?_cons_succ] at q0 q1 q2
        go_wp2_with fail
        refine (HC.out _ ((HR.out.1.below HB7.out).more HB7.out.size) ((HR.out.2.1.below HB7.out).more HB7.out.size)).mono ?_
        rintro e w8 ⟨S8, C8, cs8, cc8, rfl, O8, b8⟩
        have HA8 := hide (And.intro (HA7.out.1.call b8) (HA7.out.2.call b8))
        have HF := hide (stepM_end (n := at_) (r := 2) ⟨O8.1.down HB7.out.size, O8.2.1.down HB7.out.size, O8.2.2⟩ (HB7.out.trans (b8.mono HB7.out.size)) HA8.out.2 (Nat.le_succ _))
        clear O8 b8
        have y0 := HA8.out.2.cell 0
        have y1 := HA8.out.2.cell 1
        have y2 := HA8.out.2.cell 2
        simp only [List.getElem?_toArray, List.getElem?_cons_zero, List.getElem?_cons_succ] at y0 y1 y2
        have f0 := HA8.out.2.frozen 0
        have f1 := HA8.out.2.frozen 1
        have f2 := HA8.out.2.frozen 2
        have Z8 := put3_box HA8.out.2 (.int .i64 at_) (.slice S8 st.length cs8) (.slice C8 ca.length cc8)
        have e0 := Z8.cell 0
        have e1 := Z8.cell 1
        have e2 := Z8.cell 2
        simp only [List.getElem?_toArray, List.getElem?_cons_zero, List.getElem?_cons_succ] at e0 e1 e2
        clear Z8
        go_wp2_with fail
        rw [HE6.out]
        exact bodyPost_ret (v := .tuple #[.agg #[.int .i64 at_, .slice S8 st.length cs8, .slice C8 ca.length cc8], .int .i64 2]) (by simp [results, Try.results23, go_sem, e0, e1, e2]) rfl HF.out
      · rw [hk] at HE5
        have HE6 := hide (show stepMS at_ st ca zs = (nx, s5, ca, 0) from HE5.out)
        clear hk
        have HF := hide (stepM_end (n := nx) (r := 0) ⟨HM7.out.2.1.1.down HH.out, HM7.out.2.1.2.1.down HH.out, HM7.out.2.1.2.2⟩ HB7.out HA7.out.2 (Nat.le_succ _))
        have Z6 := put3_box HA7.out.2 (.int .i64 (nx)) (.slice A5 (s5).length c5) (.slice C2 (ca).length cc2)
        have m0 := HM7.out.1.cell 0
        have m1 := HM7.out.1.cell 1
        have m2 := HM7.out.1.cell 2
        simp only [List.getElem?_toArray, List.getElem?_cons_zero, List.getElem?_cons_succ] at m0 m1 m2
        have y0 := HA7.out.2.cell 0
        have y1 := HA7.out.2.cell 1
        have y2 := HA7.out.2.cell 2
        simp only [List.getElem?_toArray, List.getElem?_cons_zero, List.getElem?_cons_succ] at y0 y1 y2
        have f0 := HA7.out.2.frozen 0
        have f1 := HA7.out.2.frozen 1
        have f2 := HA7.out.2.frozen 2
        have e0 := Z6.cell 0
        have e1 := Z6.cell 1
        have e2 := Z6.cell 2
        simp only [List.getElem?_toArray, List.getElem?_cons_zero, List.getElem?_cons_succ] at e0 e1 e2
        have hV6 := HM7.out.1.lt
        clear Z6
        go_wp2_with fail
        rw [HE6.out]
        exact bodyPost_ret (v := .tuple #[.agg #[.int .i64 (nx), .slice A5 (s5).length c5, .slice C2 (ca).length cc2], .int .i64 0]) (by simp [results, Try.results23, go_sem, e0, e1, e2]) rfl HF.out
    · by_cases hl : 2 ≤ st.length
      · have hgt : (1 : Int) ≤ (st.length : Int) - 1 := by omega
        obtain ⟨b, off, hCC, hbw, hv⟩ := (HR.out.1.below HB4.out).int (i := st.length - 2) (by omega)
        obtain ⟨b', off', hCC', _, hv'⟩ := (HR.out.1.below HB4.out).int (i := st.length - 1) (by omega)
        rw [hCC] at hCC'
        simp only [Option.some.injEq, Addr.mk.injEq, and_true] at hCC'
        obtain ⟨rfl, rfl⟩ := hCC'
        obtain ⟨g, hA, v1, hg⟩ := Row.at1 HM4.out.2.1.1 (i := st.length - 1) (by omega)
        have hgd : st[st.length - 2] = st.getD (st.length - 2) 0 := by rw [List.getD_eq_getElem?_getD, List.getElem?_eq_getElem (by omega)]; rfl
        have hgd' : st[st.length - 1] = st.getD (st.length - 1) 0 := by rw [List.getD_eq_getElem?_getD, List.getElem?_eq_getElem (by omega)]; rfl
        rw [hgd] at hv
        rw [hgd'] at hv'
        subst hA hCC
        have x0b : 0 ≤ st.getD (st.length - 2) 0 ∧ st.getD (st.length - 2) 0 ≤ 65535 := HK.out.2.2.2 _ (getD_mem (by omega))
        have y0b : 0 ≤ st.getD (st.length - 1) 0 ∧ st.getD (st.length - 1) 0 ≤ 65535 := HK.out.2.2.2 _ (getD_mem (by omega))
        have HS := hide (show doS nx st ca 2 a = some (nx, st.take (st.length - 2) ++ [(st.getD (st.length - 2) 0 + st.getD (st.length - 1) 0) % 65536], ca) by rw [doS]; simp [hl])
        have e1 : st.length - 2 = st.length - 1 - 1 := by omega
        clear v1 hgd hgd'
        generalize st.getD (st.length - 2) 0 = x at *
        generalize st.getD (st.length - 1) 0 = y at *
        rw [e1] at hv
        have HE1 := hide e1
        clear e1
        have w52 : IntKind.i64.wrap ((st.length : Int) - 1 - 1) = (st.length : Int) - 1 - 1 := IntWalk.i64_in _ (by omega)
        have wA : IntKind.i64.wrap (x + y) = x + y := IntWalk.i64_in _ (by omega)
        have wT : (x + y).tmod 65536 = (x + y) % 65536 := Int.tmod_eq_emod_of_nonneg (by omega)
        have wW : IntKind.i64.wrap ((x + y) % 65536) = (x + y) % 65536 := IntWalk.i64_in _ (by omega)
        have p0 : (0 : Int) ≤ (st.length : Int) - 1 - 1 := by omega
        have p0' : (1 : Int) ≤ (st.length : Int) - 1 := by omega
        have p1 : (st.length : Int) - 1 - 1 < st.length := by omega
        have p2 : (0 : Int) ≤ (st.length : Int) - 1 := by omega
        have p2' : (1 : Int) ≤ (st.length : Int) := by omega
        have p3 : (st.length : Int) - 1 < st.length := by omega
        have hcap := HM4.out.2.1.1.cap.1
        have p4 : (st.length : Int) - 1 - 1 ≤ cs2 := by omega
        have p5 : st.length - 1 - 1 ≤ cs2 := by omega
        have HP := hide (show Row w4 w1.heap.size 3 1 (some ⟨g, 0, none⟩) (st.length - 1 - 1) cs2 (ints .i64 (st.take (st.length - 2))) by
          have := Row.prefix HM4.out.2.1.1 (k := st.length - 1 - 1) (by omega)
          rw [HE1.out]
          simpa [ints, List.map_take] using this)
        have hbz : b < w4.heap.size := by have h1 := HXY.out.1; omega
        go_wp2_with fail
        refine Reg.startT (fun W => W.cell? ⟨w.heap.size, 1, none⟩ = some (.slice (some ⟨b, off, none⟩) st.length cs) ∧ W.cell? ⟨b, off + (st.length - 1 - 1), none⟩ = some (.int .i64 x) ∧ W.cell? ⟨b, off + (st.length - 1), none⟩ = some (.int .i64 y) ∧ W.cell? ⟨w2.heap.size, 1, none⟩ = some (.slice (some ⟨g, 0, none⟩) st.length cs2)) (fun j => j == 21) (by kernel_rfl) ?_
        have hHeld : w4.drew.cell? ⟨w.heap.size, 1, none⟩ = some (.slice (some ⟨b, off, none⟩) st.length cs) ∧ w4.drew.cell? ⟨b, off + (st.length - 1 - 1), none⟩ = some (.int .i64 x) ∧ w4.drew.cell? ⟨b, off + (st.length - 1), none⟩ = some (.int .i64 y) ∧ w4.drew.cell? ⟨w2.heap.size, 1, none⟩ = some (.slice (some ⟨g, 0, none⟩) st.length cs2) := ⟨q1, hv, hv', m1⟩
        refine Reg.takeT (i := 0) (v := ?_) rfl (by kernel_rfl) (by kernel_rfl) (by kernel_rfl) (by kernel_rfl) (fun _ _ _ h => h) (Or.inl ⟨by rfl, ?_⟩) (by assumption) ?_
        rotate_left 1
        focus (intro w hSw; (try dsimp only at hSw); go_simp; (try with_reducible rfl))
        try simp only [List.getElem_toArray, List.getElem_cons_succ, List.getElem_cons_zero, Act.put, List.setIfInBounds_toArray, List.set_cons_zero, List.set_cons_succ]
        refine Reg.takeT (i := 1) (v := ?_) rfl (by kernel_rfl) (by kernel_rfl) (by kernel_rfl) (by kernel_rfl) (fun _ _ _ h => h) (Or.inl ⟨by rfl, ?_⟩) (by assumption) ?_
        rotate_left 1
        focus (intro w hSw; (try dsimp only at hSw); go_simp; (try with_reducible rfl))
        try simp only [List.getElem_toArray, List.getElem_cons_succ, List.getElem_cons_zero, Act.put, List.setIfInBounds_toArray, List.set_cons_zero, List.set_cons_succ]
        refine Reg.takeT (i := 2) (v := ?_) rfl (by kernel_rfl) (by kernel_rfl) (by kernel_rfl) (by kernel_rfl) (fun _ _ _ h => h) (Or.inl ⟨by rfl, ?_⟩) (by assumption) ?_
        rotate_left 1
        focus (intro w hSw; (try dsimp only at hSw); go_simp; (try with_reducible rfl))
        try simp only [List.getElem_toArray, List.getElem_cons_succ, List.getElem_cons_zero, Act.put, List.setIfInBounds_toArray, List.set_cons_zero, List.set_cons_succ]
        refine Reg.takeT (i := 3) (v := ?_) rfl (by kernel_rfl) (by kernel_rfl) (by kernel_rfl) (by kernel_rfl) (fun _ _ _ h => h) (Or.inl ⟨by rfl, ?_⟩) (by assumption) ?_
        rotate_left 1
        focus (intro w hSw; (try dsimp only at hSw); go_simp; (try with_reducible rfl))
        try simp only [List.getElem_toArray, List.getElem_cons_succ, List.getElem_cons_zero, Act.put, List.setIfInBounds_toArray, List.set_cons_zero, List.set_cons_succ]
        refine Reg.takeT (i := 4) (v := ?_) rfl (by kernel_rfl) (by kernel_rfl) (by kernel_rfl) (by kernel_rfl) (fun _ _ _ h => h) (Or.inl ⟨by rfl, ?_⟩) (by assumption) ?_
        rotate_left 1
        focus (intro w hSw; (try dsimp only at hSw); go_simp; (try with_reducible rfl))
        try simp only [List.getElem_toArray, List.getElem_cons_succ, List.getElem_cons_zero, Act.put, List.setIfInBounds_toArray, List.set_cons_zero, List.set_cons_succ]
        refine Reg.takeT (i := 5) (v := ?_) rfl (by kernel_rfl) (by kernel_rfl) (by kernel_rfl) (by kernel_rfl) (fun _ _ _ h => h) (Or.inl ⟨by rfl, ?_⟩) (by assumption) ?_
        rotate_left 1
        focus (intro w hSw; (try dsimp only at hSw); go_simp; (try with_reducible rfl))
        try simp only [List.getElem_toArray, List.getElem_cons_succ, List.getElem_cons_zero, Act.put, List.setIfInBounds_toArray, List.set_cons_zero, List.set_cons_succ]
        refine Reg.takeT (i := 6) (v := ?_) rfl (by kernel_rfl) (by kernel_rfl) (by kernel_rfl) (by kernel_rfl) (fun _ _ _ h => h) (Or.inl ⟨by rfl, ?_⟩) (by assumption) ?_
        rotate_left 1
        focus (intro w hSw; (try dsimp only at hSw); go_simp; (try with_reducible rfl))
        try simp only [List.getElem_toArray, List.getElem_cons_succ, List.getElem_cons_zero, Act.put, List.setIfInBounds_toArray, List.set_cons_zero, List.set_cons_succ]
        refine Reg.takeT (i := 7) (v := ?_) rfl (by kernel_rfl) (by kernel_rfl) (by kernel_rfl) (by kernel_rfl) (fun _ _ _ h => h) (Or.inl ⟨by rfl, ?_⟩) (by assumption) ?_
        rotate_left 1
        focus (intro w hSw; (try dsimp only at hSw); go_simp; (try with_reducible rfl))
        try simp only [List.getElem_toArray, List.getElem_cons_succ, List.getElem_cons_zero, Act.put, List.setIfInBounds_toArray, List.set_cons_zero, List.set_cons_succ]
        refine Reg.takeT (i := 8) (v := ?_) rfl (by kernel_rfl) (by kernel_rfl) (by kernel_rfl) (by kernel_rfl) (fun _ _ _ h => h) (Or.inl ⟨by rfl, ?_⟩) (by assumption) ?_
        rotate_left 1
        focus (intro w hSw; (try dsimp only at hSw); go_simp; (try with_reducible rfl))
        try simp only [List.getElem_toArray, List.getElem_cons_succ, List.getElem_cons_zero, Act.put, List.setIfInBounds_toArray, List.set_cons_zero, List.set_cons_succ]
        refine Reg.takeT (i := 9) (v := ?_) rfl (by kernel_rfl) (by kernel_rfl) (by kernel_rfl) (by kernel_rfl) (fun _ _ _ h => h) (Or.inl ⟨by rfl, ?_⟩) (by assumption) ?_
        rotate_left 1
        focus (intro w hSw; (try dsimp only at hSw); go_simp; (try with_reducible rfl))
        try simp only [List.getElem_toArray, List.getElem_cons_succ, List.getElem_cons_zero, Act.put, List.setIfInBounds_toArray, List.set_cons_zero, List.set_cons_succ]
        refine Reg.takeT (i := 10) (v := ?_) rfl (by kernel_rfl) (by kernel_rfl) (by kernel_rfl) (by kernel_rfl) (fun _ _ _ h => h) (Or.inl ⟨by rfl, ?_⟩) (by assumption) ?_
        rotate_left 1
        focus (intro w hSw; (try dsimp only at hSw); go_simp; (try with_reducible rfl))
        try simp only [List.getElem_toArray, List.getElem_cons_succ, List.getElem_cons_zero, Act.put, List.setIfInBounds_toArray, List.set_cons_zero, List.set_cons_succ]
        refine Reg.takeT (i := 11) (v := ?_) rfl (by kernel_rfl) (by kernel_rfl) (by kernel_rfl) (by kernel_rfl) (fun _ _ _ h => h) (Or.inl ⟨by rfl, ?_⟩) (by assumption) ?_
        rotate_left 1
        focus (intro w hSw; (try dsimp only at hSw); go_simp; (try with_reducible rfl))
        try simp only [List.getElem_toArray, List.getElem_cons_succ, List.getElem_cons_zero, Act.put, List.setIfInBounds_toArray, List.set_cons_zero, List.set_cons_succ]
        refine Reg.takeT (i := 12) (v := ?_) rfl (by kernel_rfl) (by kernel_rfl) (by kernel_rfl) (by kernel_rfl) (fun _ _ _ h => h) (Or.inl ⟨by rfl, ?_⟩) (by assumption) ?_
        rotate_left 1
        focus (intro w hSw; (try dsimp only at hSw); go_simp; (try with_reducible rfl))
        try simp only [List.getElem_toArray, List.getElem_cons_succ, List.getElem_cons_zero, Act.put, List.setIfInBounds_toArray, List.set_cons_zero, List.set_cons_succ]
        refine Reg.takeT (i := 13) (v := ?_) rfl (by kernel_rfl) (by kernel_rfl) (by kernel_rfl) (by kernel_rfl) (fun _ _ _ h => h) (Or.inl ⟨by rfl, ?_⟩) (by assumption) ?_
        rotate_left 1
        focus (intro w hSw; (try dsimp only at hSw); go_simp; (try with_reducible rfl))
        try simp only [List.getElem_toArray, List.getElem_cons_succ, List.getElem_cons_zero, Act.put, List.setIfInBounds_toArray, List.set_cons_zero, List.set_cons_succ]
        refine Reg.takeT (i := 14) (v := ?_) rfl (by kernel_rfl) (by kernel_rfl) (by kernel_rfl) (by kernel_rfl) (fun _ _ _ h => h) (Or.inl ⟨by rfl, ?_⟩) (by assumption) ?_
        rotate_left 1
        focus (intro w hSw; (try dsimp only at hSw); go_simp; (try with_reducible rfl))
        try simp only [List.getElem_toArray, List.getElem_cons_succ, List.getElem_cons_zero, Act.put, List.setIfInBounds_toArray, List.set_cons_zero, List.set_cons_succ]
        refine Reg.takeT (i := 15) (v := ?_) rfl (by kernel_rfl) (by kernel_rfl) (by kernel_rfl) (by kernel_rfl) (fun _ _ _ h => h) (Or.inl ⟨by rfl, ?_⟩) (by assumption) ?_
        rotate_left 1
        focus (intro w hSw; (try dsimp only at hSw); go_simp; (try with_reducible rfl))
        try simp only [List.getElem_toArray, List.getElem_cons_succ, List.getElem_cons_zero, Act.put, List.setIfInBounds_toArray, List.set_cons_zero, List.set_cons_succ]
        refine Reg.takeT (i := 16) (v := ?_) rfl (by kernel_rfl) (by kernel_rfl) (by kernel_rfl) (by kernel_rfl) (fun _ _ _ h => h) (Or.inl ⟨by rfl, ?_⟩) (by assumption) ?_
        rotate_left 1
        focus (intro w hSw; (try dsimp only at hSw); go_simp; (try with_reducible rfl))
        try simp only [List.getElem_toArray, List.getElem_cons_succ, List.getElem_cons_zero, Act.put, List.setIfInBounds_toArray, List.set_cons_zero, List.set_cons_succ]
        refine Reg.takeT (i := 17) (v := ?_) rfl (by kernel_rfl) (by kernel_rfl) (by kernel_rfl) (by kernel_rfl) (fun _ _ _ h => h) (Or.inl ⟨by rfl, ?_⟩) (by assumption) ?_
        rotate_left 1
        focus (intro w hSw; (try dsimp only at hSw); go_simp; (try with_reducible rfl))
        try simp only [List.getElem_toArray, List.getElem_cons_succ, List.getElem_cons_zero, Act.put, List.setIfInBounds_toArray, List.set_cons_zero, List.set_cons_succ]
        refine Reg.oneT (i := 18) rfl (by kernel_rfl) (fun K hK => ?_)
        go_simp
        refine hK.out _ _ (show _ ∧ _ from ⟨((below_al (Below.refl w4.heap.size w4)).cell hX3).trans q1, ((below_al (Below.refl w4.heap.size w4)).cell hbz).trans hv, ((below_al (Below.refl w4.heap.size w4)).cell hbz).trans hv', ((below_al (Below.refl w4.heap.size w4)).cell hX1).trans m1⟩) ?_
        clear hK K hHeld
        try simp only [List.getElem_toArray, List.getElem_cons_succ, List.getElem_cons_zero, Act.put, List.setIfInBounds_toArray, List.set_cons_zero, List.set_cons_succ]
        refine Reg.oneT (i := 19) rfl (by kernel_rfl) (fun K hK => ?_)
        refine step_app (by rfl) _ _ 23 (by rfl) 3 i0 (.int .i64 0) 1 8 Try.underlying23 hi hz0 hz1 hz2 rfl (by decide) w1.heap.size (some ⟨g, 0, none⟩) (st.length - 1 - 1) cs2 (ints .i64 (st.take (st.length - 2))) (by rfl) (by exact HP.out.call (by (repeat (first | with_reducible assumption | with_reducible exact Below.refl _ _ | with_reducible apply below_al | with_reducible apply below_dr | with_reducible apply below_dn)); done)) (by exact Nat.le_trans hsz (Below.size (B := w4.heap.size) (w := w4) (by (repeat (first | with_reducible assumption | with_reducible exact Below.refl _ _ | with_reducible apply below_al | with_reducible apply below_dr | with_reducible apply below_dn)); done))) _ 1 1 [.int .i64 ((x + y) % 65536)] (by rfl) (by exact rd_lit w4 #[.int .i64 ((x + y) % 65536)] 3 _ rfl) (by simp) (fun h => by cases h) oneI1 (by unfold maxLen; omega) (by omega) ?_
        intro A5 n5 c5 w5 hn5 o5 g5 k5
        have hd5 := apart_app (w := w4) HM4.out.2.1.2.2 (fun k hk => (k5 k hk).imp id (fun h => Nat.le_trans (Below.size (B := w4.heap.size) (w := w4) (by (repeat (first | with_reducible assumption | with_reducible exact Below.refl _ _ | with_reducible apply below_al | with_reducible apply below_dr | with_reducible apply below_dn)); done)) h)) (fun k hk => (HM4.out.2.1.2.1.lt k hk).2)
        have G5 := MM.grownS (MM.call HM4.out (by (repeat (first | with_reducible assumption | with_reducible exact Below.refl _ _ | with_reducible apply below_al | with_reducible apply below_dr | with_reducible apply below_dn)); done)) g5
        have b5 := below_step (base := w1.heap.size) (w1 := w4) (by (repeat (first | with_reducible assumption | with_reducible exact Below.refl _ _ | with_reducible apply below_al | with_reducible apply below_dr | with_reducible apply below_dn)); done) g5 hsz (fun k hk => (HM4.out.2.1.1.lt k hk).1)
        have b6 := b5.setCell (p := ⟨w2.heap.size, 1, none⟩) HM4.out.2.2 (.slice A5 n5 c5)
        have HNN := hide (show n5 = (st.take (st.length - 2) ++ [(x + y) % 65536]).length by rw [hn5]; simp; omega)
        have HM6 := hide (MM.mkS G5.1 HM4.out.2.2 G5.2 (A := A5) (m := n5) (c := c5) (xs := st.take (st.length - 2) ++ [(x + y) % 65536]) HNN.out (by simpa [ints] using o5) hd5)
        have hX5 := G5.1.lt
        clear hn5 o5 g5 k5 hd5
        have r1 := (b5.cell (p := ⟨w.heap.size, 1, none⟩) HXY.out.1).trans q1
        have r2 := (b5.cell (p := ⟨b, off + (st.length - 1 - 1), none⟩) (Nat.lt_trans hbw HXY.out.1)).trans hv
        have r3 := (b5.cell (p := ⟨b, off + (st.length - 1), none⟩) (Nat.lt_trans hbw HXY.out.1)).trans hv'
        have y0 := G5.1.cell 0
        have y1 := G5.1.cell 1
        have y2 := G5.1.cell 2
        have z1 := G5.1.frozen 1
        simp only [List.getElem?_toArray, List.getElem?_cons_zero, List.getElem?_cons_succ] at y0 y1 y2
        refine hK.out _ _ (show _ ∧ _ from ⟨r1, r2, r3, y1⟩) ?_
        have hHeld : w5.cell? ⟨w.heap.size, 1, none⟩ = some (.slice (some ⟨b, off, none⟩) st.length cs) ∧ w5.cell? ⟨b, off + (st.length - 1 - 1), none⟩ = some (.int .i64 x) ∧ w5.cell? ⟨b, off + (st.length - 1), none⟩ = some (.int .i64 y) ∧ w5.cell? ⟨w2.heap.size, 1, none⟩ = some (.slice (some ⟨g, 0, none⟩) st.length cs2) := ⟨r1, r2, r3, y1⟩
        clear hK K
        try simp only [List.getElem_toArray, List.getElem_cons_succ, List.getElem_cons_zero, Act.put, List.setIfInBounds_toArray, List.set_cons_zero, List.set_cons_succ]
        refine Reg.takeT (i := 20) (v := ?_) rfl (by kernel_rfl) (by kernel_rfl) (by kernel_rfl) (by kernel_rfl) (fun _ _ _ h => h) (Or.inl ⟨by rfl, ?_⟩) (by assumption) ?_
        rotate_left 1
        focus (intro w hSw; (try dsimp only at hSw); go_simp; (try with_reducible rfl))
        try simp only [List.getElem_toArray, List.getElem_cons_succ, List.getElem_cons_zero, Act.put, List.setIfInBounds_toArray, List.set_cons_zero, List.set_cons_succ]
        refine Reg.lastT (i := 21) rfl (by kernel_rfl) (by rfl) (fun K hK => ?_)
        go_simp
        refine hK.out _ _ ?_
        clear hK K hHeld
        try simp only [List.getElem_toArray, List.getElem_cons_succ, List.getElem_cons_zero, Act.put, List.setIfInBounds_toArray, List.set_cons_zero, List.set_cons_succ]
        refine Reg.doneT (by kernel_rfl) ?_ _
        clear r1 r2 r3 w52 hv hv' p0 p0' p1 p2 p2' p3 p4 p5 hcap
        try clear wA wB wC wT wW
        try clear wA wT wW
        clear m0 m1 m2 f0 f1 f2 x0 x1 q0 q1 q2 hX1 hX2 hX3
        have m0 := y0
        have m1 := y1
        have m2 := y2
        have f1 := z1
        have hX1 := hX5
        clear y0 y1 y2 z1 hX5
        have HA6 := hide (And.intro (HA4.out.1.below b6 HXY.out.1) (HA4.out.2.below b6 HXY.out.2))
        have HB6 := hide (HB4.out.trans (b6.mono HH.out))
        clear b6
        clear G5 b5
        generalize st.take (st.length - 2) ++ [(x + y) % 65536] = s5 at *
        obtain rfl := HNN.out
        go_wp2_with fail
        clear m0 m1 m2 f1
        have HE5 := hide (show stepMS at_ st ca zs = if machOk nx s5 ca then (nx, s5, ca, (0 : Int)) else (at_, st, ca, (2 : Int)) by rw [HE4.out, HS.out])
        have hls : (s5).length ≤ maxLen := Nat.le_trans HM6.out.2.1.1.cap.1 HM6.out.2.1.1.cap.2
        have hlc : (ca).length ≤ maxLen := Nat.le_trans HM6.out.2.1.2.1.cap.1 HM6.out.2.1.2.1.cap.2
        refine (machineValidS_any _ _ _ (s5) (ca) _ _ _ HM6.out.2.1.1.rd HM6.out.2.1.2.1.rd hls hlc).mono ?_
        rintro e w7 ⟨rfl, b7⟩
        have HA7 := hide (And.intro (HA6.out.1.call b7) (HA6.out.2.call b7))
        have HB7 := hide (HB6.out.trans (b7.mono HB6.out.size))
        have HM7 := hide (HM6.out.call b7)
        clear b7 hls hlc
        try clear q0 q1 q2
        try clear m0 m1 m2
        cases hk : machOk nx s5 ca
        · rw [hk] at HE5
          have HE6 := hide (show stepMS at_ st ca zs = (at_, st, ca, 2) from HE5.out)
          clear hk
          have q0 := HA7.out.1.cell 0
          have q1 := HA7.out.1.cell 1
          have q2 := HA7.out.1.cell 2
          simp only [List.getElem?_toArray, List.getElem?_cons_zero, List.getElem?_cons_succ] at q0 q1 q2
          go_wp2_with fail
          refine (HC.out _ ((HR.out.1.below HB7.out).more HB7.out.size) ((HR.out.2.1.below HB7.out).more HB7.out.size)).mono ?_
          rintro e w8 ⟨S8, C8, cs8, cc8, rfl, O8, b8⟩
          have HA8 := hide (And.intro (HA7.out.1.call b8) (HA7.out.2.call b8))
          have HF := hide (stepM_end (n := at_) (r := 2) ⟨O8.1.down HB7.out.size, O8.2.1.down HB7.out.size, O8.2.2⟩ (HB7.out.trans (b8.mono HB7.out.size)) HA8.out.2 (Nat.le_succ _))
          clear O8 b8
          have y0 := HA8.out.2.cell 0
          have y1 := HA8.out.2.cell 1
          have y2 := HA8.out.2.cell 2
          simp only [List.getElem?_toArray, List.getElem?_cons_zero, List.getElem?_cons_succ] at y0 y1 y2
          have f0 := HA8.out.2.frozen 0
          have f1 := HA8.out.2.frozen 1
          have f2 := HA8.out.2.frozen 2
          have Z8 := put3_box HA8.out.2 (.int .i64 at_) (.slice S8 st.length cs8) (.slice C8 ca.length cc8)
          have e0 := Z8.cell 0
          have e1 := Z8.cell 1
          have e2 := Z8.cell 2
          simp only [List.getElem?_toArray, List.getElem?_cons_zero, List.getElem?_cons_succ] at e0 e1 e2
          clear Z8
          go_wp2_with fail
          rw [HE6.out]
          exact bodyPost_ret (v := .tuple #[.agg #[.int .i64 at_, .slice S8 st.length cs8, .slice C8 ca.length cc8], .int .i64 2]) (by simp [results, Try.results23, go_sem, e0, e1, e2]) rfl HF.out
        · rw [hk] at HE5
          have HE6 := hide (show stepMS at_ st ca zs = (nx, s5, ca, 0) from HE5.out)
          clear hk
          have HF := hide (stepM_end (n := nx) (r := 0) ⟨HM7.out.2.1.1.down HH.out, HM7.out.2.1.2.1.down HH.out, HM7.out.2.1.2.2⟩ HB7.out HA7.out.2 (Nat.le_succ _))
          have Z6 := put3_box HA7.out.2 (.int .i64 (nx)) (.slice A5 (s5).length c5) (.slice C2 (ca).length cc2)
          have m0 := HM7.out.1.cell 0
          have m1 := HM7.out.1.cell 1
          have m2 := HM7.out.1.cell 2
          simp only [List.getElem?_toArray, List.getElem?_cons_zero, List.getElem?_cons_succ] at m0 m1 m2
          have y0 := HA7.out.2.cell 0
          have y1 := HA7.out.2.cell 1
          have y2 := HA7.out.2.cell 2
          simp only [List.getElem?_toArray, List.getElem?_cons_zero, List.getElem?_cons_succ] at y0 y1 y2
          have f0 := HA7.out.2.frozen 0
          have f1 := HA7.out.2.frozen 1
          have f2 := HA7.out.2.frozen 2
          have e0 := Z6.cell 0
          have e1 := Z6.cell 1
          have e2 := Z6.cell 2
          simp only [List.getElem?_toArray, List.getElem?_cons_zero, List.getElem?_cons_succ] at e0 e1 e2
          have hV6 := HM7.out.1.lt
          clear Z6
          go_wp2_with fail
          rw [HE6.out]
          exact bodyPost_ret (v := .tuple #[.agg #[.int .i64 (nx), .slice A5 (s5).length c5, .slice C2 (ca).length cc2], .int .i64 0]) (by simp [results, Try.results23, go_sem, e0, e1, e2]) rfl HF.out
      · have hgt : decide ((1 : Int) ≤ (st.length : Int) - 1) = false := decide_eq_false (by omega)
        have HE7 := hide (show stepMS at_ st ca zs = (at_, st, ca, 2) by rw [HE4.out, show doS nx st ca 2 a = none by rw [doS]; simp [hl]])
        go_wp2_with fail
        refine (HC.out _ ((HR.out.1.below HB4.out).more HB4.out.size) ((HR.out.2.1.below HB4.out).more HB4.out.size)).mono ?_
        rintro e w8 ⟨S8, C8, cs8, cc8, rfl, O8, b8⟩
        have HA8 := hide (And.intro (HA4.out.1.call b8) (HA4.out.2.call b8))
        have HF := hide (stepM_end (n := at_) (r := 2) ⟨O8.1.down HB4.out.size, O8.2.1.down HB4.out.size, O8.2.2⟩ (HB4.out.trans (b8.mono HB4.out.size)) HA8.out.2 (Nat.le_succ _))
        clear O8 b8
        have y0 := HA8.out.2.cell 0
        have y1 := HA8.out.2.cell 1
        have y2 := HA8.out.2.cell 2
        simp only [List.getElem?_toArray, List.getElem?_cons_zero, List.getElem?_cons_succ] at y0 y1 y2
        have f0 := HA8.out.2.frozen 0
        have f1 := HA8.out.2.frozen 1
        have f2 := HA8.out.2.frozen 2
        have Z8 := put3_box HA8.out.2 (.int .i64 at_) (.slice S8 st.length cs8) (.slice C8 ca.length cc8)
        have e0 := Z8.cell 0
        have e1 := Z8.cell 1
        have e2 := Z8.cell 2
        simp only [List.getElem?_toArray, List.getElem?_cons_zero, List.getElem?_cons_succ] at e0 e1 e2
        clear Z8
        go_wp2_with fail
        rw [HE7.out]
        exact bodyPost_ret (v := .tuple #[.agg #[.int .i64 at_, .slice S8 st.length cs8, .slice C8 ca.length cc8], .int .i64 2]) (by simp [results, Try.results23, go_sem, e0, e1, e2]) rfl HF.out
    · by_cases hl : 2 ≤ st.length
      · have hgt : (1 : Int) ≤ (st.length : Int) - 1 := by omega
        obtain ⟨b, off, hCC, hbw, hv⟩ := (HR.out.1.below HB4.out).int (i := st.length - 2) (by omega)
        obtain ⟨b', off', hCC', _, hv'⟩ := (HR.out.1.below HB4.out).int (i := st.length - 1) (by omega)
        rw [hCC] at hCC'
        simp only [Option.some.injEq, Addr.mk.injEq, and_true] at hCC'
        obtain ⟨rfl, rfl⟩ := hCC'
        obtain ⟨g, hA, v1, hg⟩ := Row.at1 HM4.out.2.1.1 (i := st.length - 1) (by omega)
        have hgd : st[st.length - 2] = st.getD (st.length - 2) 0 := by rw [List.getD_eq_getElem?_getD, List.getElem?_eq_getElem (by omega)]; rfl
        have hgd' : st[st.length - 1] = st.getD (st.length - 1) 0 := by rw [List.getD_eq_getElem?_getD, List.getElem?_eq_getElem (by omega)]; rfl
        rw [hgd] at hv
        rw [hgd'] at hv'
        subst hA hCC
        have x0b : 0 ≤ st.getD (st.length - 2) 0 ∧ st.getD (st.length - 2) 0 ≤ 65535 := HK.out.2.2.2 _ (getD_mem (by omega))
        have y0b : 0 ≤ st.getD (st.length - 1) 0 ∧ st.getD (st.length - 1) 0 ≤ 65535 := HK.out.2.2.2 _ (getD_mem (by omega))
        have HS := hide (show doS nx st ca 3 a = some (nx, st.take (st.length - 2) ++ [(st.getD (st.length - 2) 0 - st.getD (st.length - 1) 0 + 65535 + 1) % 65536], ca) by rw [doS]; simp [hl])
        have e1 : st.length - 2 = st.length - 1 - 1 := by omega
        clear v1 hgd hgd'
        generalize st.getD (st.length - 2) 0 = x at *
        generalize st.getD (st.length - 1) 0 = y at *
        rw [e1] at hv
        have HE1 := hide e1
        clear e1
        have w52 : IntKind.i64.wrap ((st.length : Int) - 1 - 1) = (st.length : Int) - 1 - 1 := IntWalk.i64_in _ (by omega)
        have wA : IntKind.i64.wrap (x - y) = x - y := IntWalk.i64_in _ (by omega)
        have wB : IntKind.i64.wrap (x - y + 65535) = x - y + 65535 := IntWalk.i64_in _ (by omega)
        have wC : IntKind.i64.wrap (x - y + 65535 + 1) = x - y + 65535 + 1 := IntWalk.i64_in _ (by omega)
        have wT : (x - y + 65535 + 1).tmod 65536 = (x - y + 65535 + 1) % 65536 := Int.tmod_eq_emod_of_nonneg (by omega)
        have wW : IntKind.i64.wrap ((x - y + 65535 + 1) % 65536) = (x - y + 65535 + 1) % 65536 := IntWalk.i64_in _ (by omega)
        have p0 : (0 : Int) ≤ (st.length : Int) - 1 - 1 := by omega
        have p0' : (1 : Int) ≤ (st.length : Int) - 1 := by omega
        have p1 : (st.length : Int) - 1 - 1 < st.length := by omega
        have p2 : (0 : Int) ≤ (st.length : Int) - 1 := by omega
        have p2' : (1 : Int) ≤ (st.length : Int) := by omega
        have p3 : (st.length : Int) - 1 < st.length := by omega
        have hcap := HM4.out.2.1.1.cap.1
        have p4 : (st.length : Int) - 1 - 1 ≤ cs2 := by omega
        have p5 : st.length - 1 - 1 ≤ cs2 := by omega
        have HP := hide (show Row w4 w1.heap.size 3 1 (some ⟨g, 0, none⟩) (st.length - 1 - 1) cs2 (ints .i64 (st.take (st.length - 2))) by
          have := Row.prefix HM4.out.2.1.1 (k := st.length - 1 - 1) (by omega)
          rw [HE1.out]
          simpa [ints, List.map_take] using this)
        have hbz : b < w4.heap.size := by have h1 := HXY.out.1; omega
        go_wp2_with fail
        refine Reg.startT (fun W => W.cell? ⟨w.heap.size, 1, none⟩ = some (.slice (some ⟨b, off, none⟩) st.length cs) ∧ W.cell? ⟨b, off + (st.length - 1 - 1), none⟩ = some (.int .i64 x) ∧ W.cell? ⟨b, off + (st.length - 1), none⟩ = some (.int .i64 y) ∧ W.cell? ⟨w2.heap.size, 1, none⟩ = some (.slice (some ⟨g, 0, none⟩) st.length cs2)) (fun j => j == 23) (by kernel_rfl) ?_
        have hHeld : w4.drew.cell? ⟨w.heap.size, 1, none⟩ = some (.slice (some ⟨b, off, none⟩) st.length cs) ∧ w4.drew.cell? ⟨b, off + (st.length - 1 - 1), none⟩ = some (.int .i64 x) ∧ w4.drew.cell? ⟨b, off + (st.length - 1), none⟩ = some (.int .i64 y) ∧ w4.drew.cell? ⟨w2.heap.size, 1, none⟩ = some (.slice (some ⟨g, 0, none⟩) st.length cs2) := ⟨q1, hv, hv', m1⟩
        refine Reg.takeT (i := 0) (v := ?_) rfl (by kernel_rfl) (by kernel_rfl) (by kernel_rfl) (by kernel_rfl) (fun _ _ _ h => h) (Or.inl ⟨by rfl, ?_⟩) (by assumption) ?_
        rotate_left 1
        focus (intro w hSw; (try dsimp only at hSw); go_simp; (try with_reducible rfl))
        try simp only [List.getElem_toArray, List.getElem_cons_succ, List.getElem_cons_zero, Act.put, List.setIfInBounds_toArray, List.set_cons_zero, List.set_cons_succ]
        refine Reg.takeT (i := 1) (v := ?_) rfl (by kernel_rfl) (by kernel_rfl) (by kernel_rfl) (by kernel_rfl) (fun _ _ _ h => h) (Or.inl ⟨by rfl, ?_⟩) (by assumption) ?_
        rotate_left 1
        focus (intro w hSw; (try dsimp only at hSw); go_simp; (try with_reducible rfl))
        try simp only [List.getElem_toArray, List.getElem_cons_succ, List.getElem_cons_zero, Act.put, List.setIfInBounds_toArray, List.set_cons_zero, List.set_cons_succ]
        refine Reg.takeT (i := 2) (v := ?_) rfl (by kernel_rfl) (by kernel_rfl) (by kernel_rfl) (by kernel_rfl) (fun _ _ _ h => h) (Or.inl ⟨by rfl, ?_⟩) (by assumption) ?_
        rotate_left 1
        focus (intro w hSw; (try dsimp only at hSw); go_simp; (try with_reducible rfl))
        try simp only [List.getElem_toArray, List.getElem_cons_succ, List.getElem_cons_zero, Act.put, List.setIfInBounds_toArray, List.set_cons_zero, List.set_cons_succ]
        refine Reg.takeT (i := 3) (v := ?_) rfl (by kernel_rfl) (by kernel_rfl) (by kernel_rfl) (by kernel_rfl) (fun _ _ _ h => h) (Or.inl ⟨by rfl, ?_⟩) (by assumption) ?_
        rotate_left 1
        focus (intro w hSw; (try dsimp only at hSw); go_simp; (try with_reducible rfl))
        try simp only [List.getElem_toArray, List.getElem_cons_succ, List.getElem_cons_zero, Act.put, List.setIfInBounds_toArray, List.set_cons_zero, List.set_cons_succ]
        refine Reg.takeT (i := 4) (v := ?_) rfl (by kernel_rfl) (by kernel_rfl) (by kernel_rfl) (by kernel_rfl) (fun _ _ _ h => h) (Or.inl ⟨by rfl, ?_⟩) (by assumption) ?_
        rotate_left 1
        focus (intro w hSw; (try dsimp only at hSw); go_simp; (try with_reducible rfl))
        try simp only [List.getElem_toArray, List.getElem_cons_succ, List.getElem_cons_zero, Act.put, List.setIfInBounds_toArray, List.set_cons_zero, List.set_cons_succ]
        refine Reg.takeT (i := 5) (v := ?_) rfl (by kernel_rfl) (by kernel_rfl) (by kernel_rfl) (by kernel_rfl) (fun _ _ _ h => h) (Or.inl ⟨by rfl, ?_⟩) (by assumption) ?_
        rotate_left 1
        focus (intro w hSw; (try dsimp only at hSw); go_simp; (try with_reducible rfl))
        try simp only [List.getElem_toArray, List.getElem_cons_succ, List.getElem_cons_zero, Act.put, List.setIfInBounds_toArray, List.set_cons_zero, List.set_cons_succ]
        refine Reg.takeT (i := 6) (v := ?_) rfl (by kernel_rfl) (by kernel_rfl) (by kernel_rfl) (by kernel_rfl) (fun _ _ _ h => h) (Or.inl ⟨by rfl, ?_⟩) (by assumption) ?_
        rotate_left 1
        focus (intro w hSw; (try dsimp only at hSw); go_simp; (try with_reducible rfl))
        try simp only [List.getElem_toArray, List.getElem_cons_succ, List.getElem_cons_zero, Act.put, List.setIfInBounds_toArray, List.set_cons_zero, List.set_cons_succ]
        refine Reg.takeT (i := 7) (v := ?_) rfl (by kernel_rfl) (by kernel_rfl) (by kernel_rfl) (by kernel_rfl) (fun _ _ _ h => h) (Or.inl ⟨by rfl, ?_⟩) (by assumption) ?_
        rotate_left 1
        focus (intro w hSw; (try dsimp only at hSw); go_simp; (try with_reducible rfl))
        try simp only [List.getElem_toArray, List.getElem_cons_succ, List.getElem_cons_zero, Act.put, List.setIfInBounds_toArray, List.set_cons_zero, List.set_cons_succ]
        refine Reg.takeT (i := 8) (v := ?_) rfl (by kernel_rfl) (by kernel_rfl) (by kernel_rfl) (by kernel_rfl) (fun _ _ _ h => h) (Or.inl ⟨by rfl, ?_⟩) (by assumption) ?_
        rotate_left 1
        focus (intro w hSw; (try dsimp only at hSw); go_simp; (try with_reducible rfl))
        try simp only [List.getElem_toArray, List.getElem_cons_succ, List.getElem_cons_zero, Act.put, List.setIfInBounds_toArray, List.set_cons_zero, List.set_cons_succ]
        refine Reg.takeT (i := 9) (v := ?_) rfl (by kernel_rfl) (by kernel_rfl) (by kernel_rfl) (by kernel_rfl) (fun _ _ _ h => h) (Or.inl ⟨by rfl, ?_⟩) (by assumption) ?_
        rotate_left 1
        focus (intro w hSw; (try dsimp only at hSw); go_simp; (try with_reducible rfl))
        try simp only [List.getElem_toArray, List.getElem_cons_succ, List.getElem_cons_zero, Act.put, List.setIfInBounds_toArray, List.set_cons_zero, List.set_cons_succ]
        refine Reg.takeT (i := 10) (v := ?_) rfl (by kernel_rfl) (by kernel_rfl) (by kernel_rfl) (by kernel_rfl) (fun _ _ _ h => h) (Or.inl ⟨by rfl, ?_⟩) (by assumption) ?_
        rotate_left 1
        focus (intro w hSw; (try dsimp only at hSw); go_simp; (try with_reducible rfl))
        try simp only [List.getElem_toArray, List.getElem_cons_succ, List.getElem_cons_zero, Act.put, List.setIfInBounds_toArray, List.set_cons_zero, List.set_cons_succ]
        refine Reg.takeT (i := 11) (v := ?_) rfl (by kernel_rfl) (by kernel_rfl) (by kernel_rfl) (by kernel_rfl) (fun _ _ _ h => h) (Or.inl ⟨by rfl, ?_⟩) (by assumption) ?_
        rotate_left 1
        focus (intro w hSw; (try dsimp only at hSw); go_simp; (try with_reducible rfl))
        try simp only [List.getElem_toArray, List.getElem_cons_succ, List.getElem_cons_zero, Act.put, List.setIfInBounds_toArray, List.set_cons_zero, List.set_cons_succ]
        refine Reg.takeT (i := 12) (v := ?_) rfl (by kernel_rfl) (by kernel_rfl) (by kernel_rfl) (by kernel_rfl) (fun _ _ _ h => h) (Or.inl ⟨by rfl, ?_⟩) (by assumption) ?_
        rotate_left 1
        focus (intro w hSw; (try dsimp only at hSw); go_simp; (try with_reducible rfl))
        try simp only [List.getElem_toArray, List.getElem_cons_succ, List.getElem_cons_zero, Act.put, List.setIfInBounds_toArray, List.set_cons_zero, List.set_cons_succ]
        refine Reg.takeT (i := 13) (v := ?_) rfl (by kernel_rfl) (by kernel_rfl) (by kernel_rfl) (by kernel_rfl) (fun _ _ _ h => h) (Or.inl ⟨by rfl, ?_⟩) (by assumption) ?_
        rotate_left 1
        focus (intro w hSw; (try dsimp only at hSw); go_simp; (try with_reducible rfl))
        try simp only [List.getElem_toArray, List.getElem_cons_succ, List.getElem_cons_zero, Act.put, List.setIfInBounds_toArray, List.set_cons_zero, List.set_cons_succ]
        refine Reg.takeT (i := 14) (v := ?_) rfl (by kernel_rfl) (by kernel_rfl) (by kernel_rfl) (by kernel_rfl) (fun _ _ _ h => h) (Or.inl ⟨by rfl, ?_⟩) (by assumption) ?_
        rotate_left 1
        focus (intro w hSw; (try dsimp only at hSw); go_simp; (try with_reducible rfl))
        try simp only [List.getElem_toArray, List.getElem_cons_succ, List.getElem_cons_zero, Act.put, List.setIfInBounds_toArray, List.set_cons_zero, List.set_cons_succ]
        refine Reg.takeT (i := 15) (v := ?_) rfl (by kernel_rfl) (by kernel_rfl) (by kernel_rfl) (by kernel_rfl) (fun _ _ _ h => h) (Or.inl ⟨by rfl, ?_⟩) (by assumption) ?_
        rotate_left 1
        focus (intro w hSw; (try dsimp only at hSw); go_simp; (try with_reducible rfl))
        try simp only [List.getElem_toArray, List.getElem_cons_succ, List.getElem_cons_zero, Act.put, List.setIfInBounds_toArray, List.set_cons_zero, List.set_cons_succ]
        refine Reg.takeT (i := 16) (v := ?_) rfl (by kernel_rfl) (by kernel_rfl) (by kernel_rfl) (by kernel_rfl) (fun _ _ _ h => h) (Or.inl ⟨by rfl, ?_⟩) (by assumption) ?_
        rotate_left 1
        focus (intro w hSw; (try dsimp only at hSw); go_simp; (try with_reducible rfl))
        try simp only [List.getElem_toArray, List.getElem_cons_succ, List.getElem_cons_zero, Act.put, List.setIfInBounds_toArray, List.set_cons_zero, List.set_cons_succ]
        refine Reg.takeT (i := 17) (v := ?_) rfl (by kernel_rfl) (by kernel_rfl) (by kernel_rfl) (by kernel_rfl) (fun _ _ _ h => h) (Or.inl ⟨by rfl, ?_⟩) (by assumption) ?_
        rotate_left 1
        focus (intro w hSw; (try dsimp only at hSw); go_simp; (try with_reducible rfl))
        try simp only [List.getElem_toArray, List.getElem_cons_succ, List.getElem_cons_zero, Act.put, List.setIfInBounds_toArray, List.set_cons_zero, List.set_cons_succ]
        refine Reg.takeT (i := 18) (v := ?_) rfl (by kernel_rfl) (by kernel_rfl) (by kernel_rfl) (by kernel_rfl) (fun _ _ _ h => h) (Or.inl ⟨by rfl, ?_⟩) (by assumption) ?_
        rotate_left 1
        focus (intro w hSw; (try dsimp only at hSw); go_simp; (try with_reducible rfl))
        try simp only [List.getElem_toArray, List.getElem_cons_succ, List.getElem_cons_zero, Act.put, List.setIfInBounds_toArray, List.set_cons_zero, List.set_cons_succ]
        refine Reg.takeT (i := 19) (v := ?_) rfl (by kernel_rfl) (by kernel_rfl) (by kernel_rfl) (by kernel_rfl) (fun _ _ _ h => h) (Or.inl ⟨by rfl, ?_⟩) (by assumption) ?_
        rotate_left 1
        focus (intro w hSw; (try dsimp only at hSw); go_simp; (try with_reducible rfl))
        try simp only [List.getElem_toArray, List.getElem_cons_succ, List.getElem_cons_zero, Act.put, List.setIfInBounds_toArray, List.set_cons_zero, List.set_cons_succ]
        refine Reg.oneT (i := 20) rfl (by kernel_rfl) (fun K hK => ?_)
        go_simp
        refine hK.out _ _ (show _ ∧ _ from ⟨((below_al (Below.refl w4.heap.size w4)).cell hX3).trans q1, ((below_al (Below.refl w4.heap.size w4)).cell hbz).trans hv, ((below_al (Below.refl w4.heap.size w4)).cell hbz).trans hv', ((below_al (Below.refl w4.heap.size w4)).cell hX1).trans m1⟩) ?_
        clear hK K hHeld
        try simp only [List.getElem_toArray, List.getElem_cons_succ, List.getElem_cons_zero, Act.put, List.setIfInBounds_toArray, List.set_cons_zero, List.set_cons_succ]
        refine Reg.oneT (i := 21) rfl (by kernel_rfl) (fun K hK => ?_)
        refine step_app (by rfl) _ _ 23 (by rfl) 3 i0 (.int .i64 0) 1 8 Try.underlying23 hi hz0 hz1 hz2 rfl (by decide) w1.heap.size (some ⟨g, 0, none⟩) (st.length - 1 - 1) cs2 (ints .i64 (st.take (st.length - 2))) (by rfl) (by exact HP.out.call (by (repeat (first | with_reducible assumption | with_reducible exact Below.refl _ _ | with_reducible apply below_al | with_reducible apply below_dr | with_reducible apply below_dn)); done)) (by exact Nat.le_trans hsz (Below.size (B := w4.heap.size) (w := w4) (by (repeat (first | with_reducible assumption | with_reducible exact Below.refl _ _ | with_reducible apply below_al | with_reducible apply below_dr | with_reducible apply below_dn)); done))) _ 1 1 [.int .i64 ((x - y + 65535 + 1) % 65536)] (by rfl) (by exact rd_lit w4 #[.int .i64 ((x - y + 65535 + 1) % 65536)] 3 _ rfl) (by simp) (fun h => by cases h) oneI1 (by unfold maxLen; omega) (by omega) ?_
        intro A5 n5 c5 w5 hn5 o5 g5 k5
        have hd5 := apart_app (w := w4) HM4.out.2.1.2.2 (fun k hk => (k5 k hk).imp id (fun h => Nat.le_trans (Below.size (B := w4.heap.size) (w := w4) (by (repeat (first | with_reducible assumption | with_reducible exact Below.refl _ _ | with_reducible apply below_al | with_reducible apply below_dr | with_reducible apply below_dn)); done)) h)) (fun k hk => (HM4.out.2.1.2.1.lt k hk).2)
        have G5 := MM.grownS (MM.call HM4.out (by (repeat (first | with_reducible assumption | with_reducible exact Below.refl _ _ | with_reducible apply below_al | with_reducible apply below_dr | with_reducible apply below_dn)); done)) g5
        have b5 := below_step (base := w1.heap.size) (w1 := w4) (by (repeat (first | with_reducible assumption | with_reducible exact Below.refl _ _ | with_reducible apply below_al | with_reducible apply below_dr | with_reducible apply below_dn)); done) g5 hsz (fun k hk => (HM4.out.2.1.1.lt k hk).1)
        have b6 := b5.setCell (p := ⟨w2.heap.size, 1, none⟩) HM4.out.2.2 (.slice A5 n5 c5)
        have HNN := hide (show n5 = (st.take (st.length - 2) ++ [(x - y + 65535 + 1) % 65536]).length by rw [hn5]; simp; omega)
        have HM6 := hide (MM.mkS G5.1 HM4.out.2.2 G5.2 (A := A5) (m := n5) (c := c5) (xs := st.take (st.length - 2) ++ [(x - y + 65535 + 1) % 65536]) HNN.out (by simpa [ints] using o5) hd5)
        have hX5 := G5.1.lt
        clear hn5 o5 g5 k5 hd5
        have r1 := (b5.cell (p := ⟨w.heap.size, 1, none⟩) HXY.out.1).trans q1
        have r2 := (b5.cell (p := ⟨b, off + (st.length - 1 - 1), none⟩) (Nat.lt_trans hbw HXY.out.1)).trans hv
        have r3 := (b5.cell (p := ⟨b, off + (st.length - 1), none⟩) (Nat.lt_trans hbw HXY.out.1)).trans hv'
        have y0 := G5.1.cell 0
        have y1 := G5.1.cell 1
        have y2 := G5.1.cell 2
        have z1 := G5.1.frozen 1
        simp only [List.getElem?_toArray, List.getElem?_cons_zero, List.getElem?_cons_succ] at y0 y1 y2
        refine hK.out _ _ (show _ ∧ _ from ⟨r1, r2, r3, y1⟩) ?_
        have hHeld : w5.cell? ⟨w.heap.size, 1, none⟩ = some (.slice (some ⟨b, off, none⟩) st.length cs) ∧ w5.cell? ⟨b, off + (st.length - 1 - 1), none⟩ = some (.int .i64 x) ∧ w5.cell? ⟨b, off + (st.length - 1), none⟩ = some (.int .i64 y) ∧ w5.cell? ⟨w2.heap.size, 1, none⟩ = some (.slice (some ⟨g, 0, none⟩) st.length cs2) := ⟨r1, r2, r3, y1⟩
        clear hK K
        try simp only [List.getElem_toArray, List.getElem_cons_succ, List.getElem_cons_zero, Act.put, List.setIfInBounds_toArray, List.set_cons_zero, List.set_cons_succ]
        refine Reg.takeT (i := 22) (v := ?_) rfl (by kernel_rfl) (by kernel_rfl) (by kernel_rfl) (by kernel_rfl) (fun _ _ _ h => h) (Or.inl ⟨by rfl, ?_⟩) (by assumption) ?_
        rotate_left 1
        focus (intro w hSw; (try dsimp only at hSw); go_simp; (try with_reducible rfl))
        try simp only [List.getElem_toArray, List.getElem_cons_succ, List.getElem_cons_zero, Act.put, List.setIfInBounds_toArray, List.set_cons_zero, List.set_cons_succ]
        refine Reg.lastT (i := 23) rfl (by kernel_rfl) (by rfl) (fun K hK => ?_)
        go_simp
        refine hK.out _ _ ?_
        clear hK K hHeld
        try simp only [List.getElem_toArray, List.getElem_cons_succ, List.getElem_cons_zero, Act.put, List.setIfInBounds_toArray, List.set_cons_zero, List.set_cons_succ]
        refine Reg.doneT (by kernel_rfl) ?_ _
        clear r1 r2 r3 w52 hv hv' p0 p0' p1 p2 p2' p3 p4 p5 hcap
        try clear wA wB wC wT wW
        try clear wA wT wW
        clear m0 m1 m2 f0 f1 f2 x0 x1 q0 q1 q2 hX1 hX2 hX3
        have m0 := y0
        have m1 := y1
        have m2 := y2
        have f1 := z1
        have hX1 := hX5
        clear y0 y1 y2 z1 hX5
        have HA6 := hide (And.intro (HA4.out.1.below b6 HXY.out.1) (HA4.out.2.below b6 HXY.out.2))
        have HB6 := hide (HB4.out.trans (b6.mono HH.out))
        clear b6
        clear G5 b5
        generalize st.take (st.length - 2) ++ [(x - y + 65535 + 1) % 65536] = s5 at *
        obtain rfl := HNN.out
        go_wp2_with fail
        clear m0 m1 m2 f1
        have HE5 := hide (show stepMS at_ st ca zs = if machOk nx s5 ca then (nx, s5, ca, (0 : Int)) else (at_, st, ca, (2 : Int)) by rw [HE4.out, HS.out])
        have hls : (s5).length ≤ maxLen := Nat.le_trans HM6.out.2.1.1.cap.1 HM6.out.2.1.1.cap.2
        have hlc : (ca).length ≤ maxLen := Nat.le_trans HM6.out.2.1.2.1.cap.1 HM6.out.2.1.2.1.cap.2
        refine (machineValidS_any _ _ _ (s5) (ca) _ _ _ HM6.out.2.1.1.rd HM6.out.2.1.2.1.rd hls hlc).mono ?_
        rintro e w7 ⟨rfl, b7⟩
        have HA7 := hide (And.intro (HA6.out.1.call b7) (HA6.out.2.call b7))
        have HB7 := hide (HB6.out.trans (b7.mono HB6.out.size))
        have HM7 := hide (HM6.out.call b7)
        clear b7 hls hlc
        try clear q0 q1 q2
        try clear m0 m1 m2
        cases hk : machOk nx s5 ca
        · rw [hk] at HE5
          have HE6 := hide (show stepMS at_ st ca zs = (at_, st, ca, 2) from HE5.out)
          clear hk
          have q0 := HA7.out.1.cell 0
          have q1 := HA7.out.1.cell 1
          have q2 := HA7.out.1.cell 2
          simp only [List.getElem?_toArray, List.getElem?_cons_zero, List.getElem?_cons_succ] at q0 q1 q2
          go_wp2_with fail
          refine (HC.out _ ((HR.out.1.below HB7.out).more HB7.out.size) ((HR.out.2.1.below HB7.out).more HB7.out.size)).mono ?_
          rintro e w8 ⟨S8, C8, cs8, cc8, rfl, O8, b8⟩
          have HA8 := hide (And.intro (HA7.out.1.call b8) (HA7.out.2.call b8))
          have HF := hide (stepM_end (n := at_) (r := 2) ⟨O8.1.down HB7.out.size, O8.2.1.down HB7.out.size, O8.2.2⟩ (HB7.out.trans (b8.mono HB7.out.size)) HA8.out.2 (Nat.le_succ _))
          clear O8 b8
          have y0 := HA8.out.2.cell 0
          have y1 := HA8.out.2.cell 1
          have y2 := HA8.out.2.cell 2
          simp only [List.getElem?_toArray, List.getElem?_cons_zero, List.getElem?_cons_succ] at y0 y1 y2
          have f0 := HA8.out.2.frozen 0
          have f1 := HA8.out.2.frozen 1
          have f2 := HA8.out.2.frozen 2
          have Z8 := put3_box HA8.out.2 (.int .i64 at_) (.slice S8 st.length cs8) (.slice C8 ca.length cc8)
          have e0 := Z8.cell 0
          have e1 := Z8.cell 1
          have e2 := Z8.cell 2
          simp only [List.getElem?_toArray, List.getElem?_cons_zero, List.getElem?_cons_succ] at e0 e1 e2
          clear Z8
          go_wp2_with fail
          rw [HE6.out]
          exact bodyPost_ret (v := .tuple #[.agg #[.int .i64 at_, .slice S8 st.length cs8, .slice C8 ca.length cc8], .int .i64 2]) (by simp [results, Try.results23, go_sem, e0, e1, e2]) rfl HF.out
        · rw [hk] at HE5
          have HE6 := hide (show stepMS at_ st ca zs = (nx, s5, ca, 0) from HE5.out)
          clear hk
          have HF := hide (stepM_end (n := nx) (r := 0) ⟨HM7.out.2.1.1.down HH.out, HM7.out.2.1.2.1.down HH.out, HM7.out.2.1.2.2⟩ HB7.out HA7.out.2 (Nat.le_succ _))
          have Z6 := put3_box HA7.out.2 (.int .i64 (nx)) (.slice A5 (s5).length c5) (.slice C2 (ca).length cc2)
          have m0 := HM7.out.1.cell 0
          have m1 := HM7.out.1.cell 1
          have m2 := HM7.out.1.cell 2
          simp only [List.getElem?_toArray, List.getElem?_cons_zero, List.getElem?_cons_succ] at m0 m1 m2
          have y0 := HA7.out.2.cell 0
          have y1 := HA7.out.2.cell 1
          have y2 := HA7.out.2.cell 2
          simp only [List.getElem?_toArray, List.getElem?_cons_zero, List.getElem?_cons_succ] at y0 y1 y2
          have f0 := HA7.out.2.frozen 0
          have f1 := HA7.out.2.frozen 1
          have f2 := HA7.out.2.frozen 2
          have e0 := Z6.cell 0
          have e1 := Z6.cell 1
          have e2 := Z6.cell 2
          simp only [List.getElem?_toArray, List.getElem?_cons_zero, List.getElem?_cons_succ] at e0 e1 e2
          have hV6 := HM7.out.1.lt
          clear Z6
          go_wp2_with fail
          rw [HE6.out]
          exact bodyPost_ret (v := .tuple #[.agg #[.int .i64 (nx), .slice A5 (s5).length c5, .slice C2 (ca).length cc2], .int .i64 0]) (by simp [results, Try.results23, go_sem, e0, e1, e2]) rfl HF.out
      · have hgt : decide ((1 : Int) ≤ (st.length : Int) - 1) = false := decide_eq_false (by omega)
        have HE7 := hide (show stepMS at_ st ca zs = (at_, st, ca, 2) by rw [HE4.out, show doS nx st ca 3 a = none by rw [doS]; simp [hl]])
        go_wp2_with fail
        refine (HC.out _ ((HR.out.1.below HB4.out).more HB4.out.size) ((HR.out.2.1.below HB4.out).more HB4.out.size)).mono ?_
        rintro e w8 ⟨S8, C8, cs8, cc8, rfl, O8, b8⟩
        have HA8 := hide (And.intro (HA4.out.1.call b8) (HA4.out.2.call b8))
        have HF := hide (stepM_end (n := at_) (r := 2) ⟨O8.1.down HB4.out.size, O8.2.1.down HB4.out.size, O8.2.2⟩ (HB4.out.trans (b8.mono HB4.out.size)) HA8.out.2 (Nat.le_succ _))
        clear O8 b8
        have y0 := HA8.out.2.cell 0
        have y1 := HA8.out.2.cell 1
        have y2 := HA8.out.2.cell 2
        simp only [List.getElem?_toArray, List.getElem?_cons_zero, List.getElem?_cons_succ] at y0 y1 y2
        have f0 := HA8.out.2.frozen 0
        have f1 := HA8.out.2.frozen 1
        have f2 := HA8.out.2.frozen 2
        have Z8 := put3_box HA8.out.2 (.int .i64 at_) (.slice S8 st.length cs8) (.slice C8 ca.length cc8)
        have e0 := Z8.cell 0
        have e1 := Z8.cell 1
        have e2 := Z8.cell 2
        simp only [List.getElem?_toArray, List.getElem?_cons_zero, List.getElem?_cons_succ] at e0 e1 e2
        clear Z8
        go_wp2_with fail
        rw [HE7.out]
        exact bodyPost_ret (v := .tuple #[.agg #[.int .i64 at_, .slice S8 st.length cs8, .slice C8 ca.length cc8], .int .i64 2]) (by simp [results, Try.results23, go_sem, e0, e1, e2]) rfl HF.out
    · have HS := hide (show doS nx st ca 4 a = some (a, st, ca) from rfl)
      have HM6 := hide (HM4.out.at_ a)
      have b6 := (Below.refl w1.heap.size w4).setCell (p := ⟨w2.heap.size, 0, none⟩) HM4.out.2.2 (.int .i64 a)
      have HA6 := hide (And.intro (HA4.out.1.below b6 HXY.out.1) (HA4.out.2.below b6 HXY.out.2))
      have HB6 := hide (HB4.out.trans (b6.mono HH.out))
      clear b6
      clear q0 q1 q2
      go_wp2_with fail
      clear m0 m1 m2 f0 f1 f2 x0 x1
      have HE5 := hide (show stepMS at_ st ca zs = if machOk a st ca then (a, st, ca, (0 : Int)) else (at_, st, ca, (2 : Int)) by rw [HE4.out, HS.out])
      have hls : (st).length ≤ maxLen := Nat.le_trans HM6.out.2.1.1.cap.1 HM6.out.2.1.1.cap.2
      have hlc : (ca).length ≤ maxLen := Nat.le_trans HM6.out.2.1.2.1.cap.1 HM6.out.2.1.2.1.cap.2
      refine (machineValidS_any _ _ _ (st) (ca) _ _ _ HM6.out.2.1.1.rd HM6.out.2.1.2.1.rd hls hlc).mono ?_
      rintro e w7 ⟨rfl, b7⟩
      have HA7 := hide (And.intro (HA6.out.1.call b7) (HA6.out.2.call b7))
      have HB7 := hide (HB6.out.trans (b7.mono HB6.out.size))
      have HM7 := hide (HM6.out.call b7)
      clear b7 hls hlc
      try clear q0 q1 q2
      try clear m0 m1 m2
      cases hk : machOk a st ca
      · rw [hk] at HE5
        have HE6 := hide (show stepMS at_ st ca zs = (at_, st, ca, 2) from HE5.out)
        clear hk
        have q0 := HA7.out.1.cell 0
        have q1 := HA7.out.1.cell 1
        have q2 := HA7.out.1.cell 2
        simp only [List.getElem?_toArray, List.getElem?_cons_zero, List.getElem?_cons_succ] at q0 q1 q2
        go_wp2_with fail
        refine (HC.out _ ((HR.out.1.below HB7.out).more HB7.out.size) ((HR.out.2.1.below HB7.out).more HB7.out.size)).mono ?_
        rintro e w8 ⟨S8, C8, cs8, cc8, rfl, O8, b8⟩
        have HA8 := hide (And.intro (HA7.out.1.call b8) (HA7.out.2.call b8))
        have HF := hide (stepM_end (n := at_) (r := 2) ⟨O8.1.down HB7.out.size, O8.2.1.down HB7.out.size, O8.2.2⟩ (HB7.out.trans (b8.mono HB7.out.size)) HA8.out.2 (Nat.le_succ _))
        clear O8 b8
        have y0 := HA8.out.2.cell 0
        have y1 := HA8.out.2.cell 1
        have y2 := HA8.out.2.cell 2
        simp only [List.getElem?_toArray, List.getElem?_cons_zero, List.getElem?_cons_succ] at y0 y1 y2
        have f0 := HA8.out.2.frozen 0
        have f1 := HA8.out.2.frozen 1
        have f2 := HA8.out.2.frozen 2
        have Z8 := put3_box HA8.out.2 (.int .i64 at_) (.slice S8 st.length cs8) (.slice C8 ca.length cc8)
        have e0 := Z8.cell 0
        have e1 := Z8.cell 1
        have e2 := Z8.cell 2
        simp only [List.getElem?_toArray, List.getElem?_cons_zero, List.getElem?_cons_succ] at e0 e1 e2
        clear Z8
        go_wp2_with fail
        rw [HE6.out]
        exact bodyPost_ret (v := .tuple #[.agg #[.int .i64 at_, .slice S8 st.length cs8, .slice C8 ca.length cc8], .int .i64 2]) (by simp [results, Try.results23, go_sem, e0, e1, e2]) rfl HF.out
      · rw [hk] at HE5
        have HE6 := hide (show stepMS at_ st ca zs = (a, st, ca, 0) from HE5.out)
        clear hk
        have HF := hide (stepM_end (n := a) (r := 0) ⟨HM7.out.2.1.1.down HH.out, HM7.out.2.1.2.1.down HH.out, HM7.out.2.1.2.2⟩ HB7.out HA7.out.2 (Nat.le_succ _))
        have Z6 := put3_box HA7.out.2 (.int .i64 (a)) (.slice S2 (st).length cs2) (.slice C2 (ca).length cc2)
        have m0 := HM7.out.1.cell 0
        have m1 := HM7.out.1.cell 1
        have m2 := HM7.out.1.cell 2
        simp only [List.getElem?_toArray, List.getElem?_cons_zero, List.getElem?_cons_succ] at m0 m1 m2
        have y0 := HA7.out.2.cell 0
        have y1 := HA7.out.2.cell 1
        have y2 := HA7.out.2.cell 2
        simp only [List.getElem?_toArray, List.getElem?_cons_zero, List.getElem?_cons_succ] at y0 y1 y2
        have f0 := HA7.out.2.frozen 0
        have f1 := HA7.out.2.frozen 1
        have f2 := HA7.out.2.frozen 2
        have e0 := Z6.cell 0
        have e1 := Z6.cell 1
        have e2 := Z6.cell 2
        simp only [List.getElem?_toArray, List.getElem?_cons_zero, List.getElem?_cons_succ] at e0 e1 e2
        have hV6 := HM7.out.1.lt
        clear Z6
        go_wp2_with fail
        rw [HE6.out]
        exact bodyPost_ret (v := .tuple #[.agg #[.int .i64 (a), .slice S2 (st).length cs2, .slice C2 (ca).length cc2], .int .i64 0]) (by simp [results, Try.results23, go_sem, e0, e1, e2]) rfl HF.out
    · by_cases hl : 1 ≤ st.length
      · have hgt : (0 : Int) ≤ (st.length : Int) - 1 := by omega
        obtain ⟨b, off, hCC, hbw, hv⟩ := (HR.out.1.below HB4.out).int (i := st.length - 1) (by omega)
        obtain ⟨g, hA, v1, hg⟩ := Row.at1 HM4.out.2.1.1 (i := st.length - 1) (by omega)
        have hgd : st[st.length - 1] = st.getD (st.length - 1) 0 := by rw [List.getD_eq_getElem?_getD, List.getElem?_eq_getElem (by omega)]; rfl
        rw [hgd] at hv
        subst hA hCC
        have HS0 := hide (show doS nx st ca 5 a = some (if st.getD (st.length - 1) 0 = 0 then a else nx, st.take (st.length - 1), ca) by rw [doS]; simp [hl])
        generalize st.getD (st.length - 1) 0 = y at *
        have p2 : (0 : Int) ≤ (st.length : Int) - 1 := by omega
        have p2' : (1 : Int) ≤ (st.length : Int) := by omega
        have p3 : (st.length : Int) - 1 < st.length := by omega
        have hcap := HM4.out.2.1.1.cap.1
        have p4 : (st.length : Int) - 1 ≤ cs2 := by omega
        have p5 : st.length - 1 ≤ cs2 := by omega
        have HP := hide (show Row w4 w1.heap.size 3 1 (some ⟨g, 0, none⟩) (st.length - 1) cs2 (ints .i64 (st.take (st.length - 1))) by
          have := Row.prefix HM4.out.2.1.1 (k := st.length - 1) (by omega)
          simpa [ints, List.map_take] using this)
        have hlen : st.length - 1 = (st.take (st.length - 1)).length := by simp
        have M5 := MM.mkS HM4.out.1 HM4.out.2.2 HM4.out.2.1.2.1 hlen HP.out HM4.out.2.1.2.2
        have b5 := (Below.refl w1.heap.size w4).setCell (p := ⟨w2.heap.size, 1, none⟩) HM4.out.2.2 (.slice (some ⟨g, 0, none⟩) (st.length - 1) cs2)
        have hne : w.heap.size ≠ w2.heap.size := by have h1 := HXY.out.1; have h2 := HM4.out.2.2; omega
        have hbz : b ≠ w2.heap.size := by have h1 := HXY.out.1; have h2 := HM4.out.2.2; omega
        by_cases hy : y = 0
        · subst hy
          have HS := hide (show doS nx st ca 5 a = some (a, st.take (st.length - 1), ca) by rw [HS0.out]; rfl)
          have HM6 := hide (M5.at_ a)
          have b6 := b5.setCell (p := ⟨w2.heap.size, 0, none⟩) HM4.out.2.2 (.int .i64 a)
          have HA6 := hide (And.intro (HA4.out.1.below b6 HXY.out.1) (HA4.out.2.below b6 HXY.out.2))
          have HB6 := hide (HB4.out.trans (b6.mono HH.out))
          clear b6
          have HL := hide hlen
          clear hlen M5 hgd hg hcap HP q0 q1 q2 b5
          have q0 := HA4.out.1.cell 0
          have q1 := HA4.out.1.cell 1
          have q2 := HA4.out.1.cell 2
          simp only [List.getElem?_toArray, List.getElem?_cons_zero, List.getElem?_cons_succ] at q0 q1 q2
          generalize st.take (st.length - 1) = s5 at *
          go_wp2_with fail
          have hL := HL.out
          rw [hL]
          rw [hL] at HM6 HA6 HB6
          clear hL v1 hv p2 p2' p3 p4 p5
          clear m0 m1 m2 f0 f1 f2 x0 x1 q0 q1 q2
          have HE5 := hide (show stepMS at_ st ca zs = if machOk a s5 ca then (a, s5, ca, (0 : Int)) else (at_, st, ca, (2 : Int)) by rw [HE4.out, HS.out])
          have hls : (s5).length ≤ maxLen := Nat.le_trans HM6.out.2.1.1.cap.1 HM6.out.2.1.1.cap.2
          have hlc : (ca).length ≤ maxLen := Nat.le_trans HM6.out.2.1.2.1.cap.1 HM6.out.2.1.2.1.cap.2
          refine (machineValidS_any _ _ _ (s5) (ca) _ _ _ HM6.out.2.1.1.rd HM6.out.2.1.2.1.rd hls hlc).mono ?_
          rintro e w7 ⟨rfl, b7⟩
          have HA7 := hide (And.intro (HA6.out.1.call b7) (HA6.out.2.call b7))
          have HB7 := hide (HB6.out.trans (b7.mono HB6.out.size))
          have HM7 := hide (HM6.out.call b7)
          clear b7 hls hlc
          try clear q0 q1 q2
          try clear m0 m1 m2
          cases hk : machOk a s5 ca
          · rw [hk] at HE5
            have HE6 := hide (show stepMS at_ st ca zs = (at_, st, ca, 2) from HE5.out)
            clear hk
            have q0 := HA7.out.1.cell 0
            have q1 := HA7.out.1.cell 1
            have q2 := HA7.out.1.cell 2
            simp only [List.getElem?_toArray, List.getElem?_cons_zero, List.getElem?_cons_succ] at q0 q1 q2
            go_wp2_with fail
            refine (HC.out _ ((HR.out.1.below HB7.out).more HB7.out.size) ((HR.out.2.1.below HB7.out).more HB7.out.size)).mono ?_
            rintro e w8 ⟨S8, C8, cs8, cc8, rfl, O8, b8⟩
            have HA8 := hide (And.intro (HA7.out.1.call b8) (HA7.out.2.call b8))
            have HF := hide (stepM_end (n := at_) (r := 2) ⟨O8.1.down HB7.out.size, O8.2.1.down HB7.out.size, O8.2.2⟩ (HB7.out.trans (b8.mono HB7.out.size)) HA8.out.2 (Nat.le_succ _))
            clear O8 b8
            have y0 := HA8.out.2.cell 0
            have y1 := HA8.out.2.cell 1
            have y2 := HA8.out.2.cell 2
            simp only [List.getElem?_toArray, List.getElem?_cons_zero, List.getElem?_cons_succ] at y0 y1 y2
            have f0 := HA8.out.2.frozen 0
            have f1 := HA8.out.2.frozen 1
            have f2 := HA8.out.2.frozen 2
            have Z8 := put3_box HA8.out.2 (.int .i64 at_) (.slice S8 st.length cs8) (.slice C8 ca.length cc8)
            have e0 := Z8.cell 0
            have e1 := Z8.cell 1
            have e2 := Z8.cell 2
            simp only [List.getElem?_toArray, List.getElem?_cons_zero, List.getElem?_cons_succ] at e0 e1 e2
            clear Z8
            go_wp2_with fail
            rw [HE6.out]
            exact bodyPost_ret (v := .tuple #[.agg #[.int .i64 at_, .slice S8 st.length cs8, .slice C8 ca.length cc8], .int .i64 2]) (by simp [results, Try.results23, go_sem, e0, e1, e2]) rfl HF.out
          · rw [hk] at HE5
            have HE6 := hide (show stepMS at_ st ca zs = (a, s5, ca, 0) from HE5.out)
            clear hk
            have HF := hide (stepM_end (n := a) (r := 0) ⟨HM7.out.2.1.1.down HH.out, HM7.out.2.1.2.1.down HH.out, HM7.out.2.1.2.2⟩ HB7.out HA7.out.2 (Nat.le_succ _))
            have Z6 := put3_box HA7.out.2 (.int .i64 (a)) (.slice (some ⟨g, 0, none⟩) (s5).length cs2) (.slice C2 (ca).length cc2)
            have m0 := HM7.out.1.cell 0
            have m1 := HM7.out.1.cell 1
            have m2 := HM7.out.1.cell 2
            simp only [List.getElem?_toArray, List.getElem?_cons_zero, List.getElem?_cons_succ] at m0 m1 m2
            have y0 := HA7.out.2.cell 0
            have y1 := HA7.out.2.cell 1
            have y2 := HA7.out.2.cell 2
            simp only [List.getElem?_toArray, List.getElem?_cons_zero, List.getElem?_cons_succ] at y0 y1 y2
            have f0 := HA7.out.2.frozen 0
            have f1 := HA7.out.2.frozen 1
            have f2 := HA7.out.2.frozen 2
            have e0 := Z6.cell 0
            have e1 := Z6.cell 1
            have e2 := Z6.cell 2
            simp only [List.getElem?_toArray, List.getElem?_cons_zero, List.getElem?_cons_succ] at e0 e1 e2
            have hV6 := HM7.out.1.lt
            clear Z6
            go_wp2_with fail
            rw [HE6.out]
            exact bodyPost_ret (v := .tuple #[.agg #[.int .i64 (a), .slice (some ⟨g, 0, none⟩) (s5).length cs2, .slice C2 (ca).length cc2], .int .i64 0]) (by simp [results, Try.results23, go_sem, e0, e1, e2]) rfl HF.out
        · have hy' : (y == 0) = false := by simpa using hy
          have HS := hide (show doS nx st ca 5 a = some (nx, st.take (st.length - 1), ca) by rw [HS0.out, if_neg hy])
          clear hy
          have HM6 := hide M5
          have b6 := b5
          have HA6 := hide (And.intro (HA4.out.1.below b6 HXY.out.1) (HA4.out.2.below b6 HXY.out.2))
          have HB6 := hide (HB4.out.trans (b6.mono HH.out))
          clear b6
          have HL := hide hlen
          clear hlen M5 hgd hg hcap HP q0 q1 q2 b5
          have q0 := HA4.out.1.cell 0
          have q1 := HA4.out.1.cell 1
          have q2 := HA4.out.1.cell 2
          simp only [List.getElem?_toArray, List.getElem?_cons_zero, List.getElem?_cons_succ] at q0 q1 q2
          generalize st.take (st.length - 1) = s5 at *
          go_wp2_with fail
          have hL := HL.out
          rw [hL]
          rw [hL] at HM6 HA6 HB6
          clear hL v1 hv p2 p2' p3 p4 p5
          clear m0 m1 m2 f0 f1 f2 x0 x1 q0 q1 q2
          have HE5 := hide (show stepMS at_ st ca zs = if machOk nx s5 ca then (nx, s5, ca, (0 : Int)) else (at_, st, ca, (2 : Int)) by rw [HE4.out, HS.out])
          have hls : (s5).length ≤ maxLen := Nat.le_trans HM6.out.2.1.1.cap.1 HM6.out.2.1.1.cap.2
          have hlc : (ca).length ≤ maxLen := Nat.le_trans HM6.out.2.1.2.1.cap.1 HM6.out.2.1.2.1.cap.2
          refine (machineValidS_any _ _ _ (s5) (ca) _ _ _ HM6.out.2.1.1.rd HM6.out.2.1.2.1.rd hls hlc).mono ?_
          rintro e w7 ⟨rfl, b7⟩
          have HA7 := hide (And.intro (HA6.out.1.call b7) (HA6.out.2.call b7))
          have HB7 := hide (HB6.out.trans (b7.mono HB6.out.size))
          have HM7 := hide (HM6.out.call b7)
          clear b7 hls hlc
          try clear q0 q1 q2
          try clear m0 m1 m2
          cases hk : machOk nx s5 ca
          · rw [hk] at HE5
            have HE6 := hide (show stepMS at_ st ca zs = (at_, st, ca, 2) from HE5.out)
            clear hk
            have q0 := HA7.out.1.cell 0
            have q1 := HA7.out.1.cell 1
            have q2 := HA7.out.1.cell 2
            simp only [List.getElem?_toArray, List.getElem?_cons_zero, List.getElem?_cons_succ] at q0 q1 q2
            go_wp2_with fail
            refine (HC.out _ ((HR.out.1.below HB7.out).more HB7.out.size) ((HR.out.2.1.below HB7.out).more HB7.out.size)).mono ?_
            rintro e w8 ⟨S8, C8, cs8, cc8, rfl, O8, b8⟩
            have HA8 := hide (And.intro (HA7.out.1.call b8) (HA7.out.2.call b8))
            have HF := hide (stepM_end (n := at_) (r := 2) ⟨O8.1.down HB7.out.size, O8.2.1.down HB7.out.size, O8.2.2⟩ (HB7.out.trans (b8.mono HB7.out.size)) HA8.out.2 (Nat.le_succ _))
            clear O8 b8
            have y0 := HA8.out.2.cell 0
            have y1 := HA8.out.2.cell 1
            have y2 := HA8.out.2.cell 2
            simp only [List.getElem?_toArray, List.getElem?_cons_zero, List.getElem?_cons_succ] at y0 y1 y2
            have f0 := HA8.out.2.frozen 0
            have f1 := HA8.out.2.frozen 1
            have f2 := HA8.out.2.frozen 2
            have Z8 := put3_box HA8.out.2 (.int .i64 at_) (.slice S8 st.length cs8) (.slice C8 ca.length cc8)
            have e0 := Z8.cell 0
            have e1 := Z8.cell 1
            have e2 := Z8.cell 2
            simp only [List.getElem?_toArray, List.getElem?_cons_zero, List.getElem?_cons_succ] at e0 e1 e2
            clear Z8
            go_wp2_with fail
            rw [HE6.out]
            exact bodyPost_ret (v := .tuple #[.agg #[.int .i64 at_, .slice S8 st.length cs8, .slice C8 ca.length cc8], .int .i64 2]) (by simp [results, Try.results23, go_sem, e0, e1, e2]) rfl HF.out
          · rw [hk] at HE5
            have HE6 := hide (show stepMS at_ st ca zs = (nx, s5, ca, 0) from HE5.out)
            clear hk
            have HF := hide (stepM_end (n := nx) (r := 0) ⟨HM7.out.2.1.1.down HH.out, HM7.out.2.1.2.1.down HH.out, HM7.out.2.1.2.2⟩ HB7.out HA7.out.2 (Nat.le_succ _))
            have Z6 := put3_box HA7.out.2 (.int .i64 (nx)) (.slice (some ⟨g, 0, none⟩) (s5).length cs2) (.slice C2 (ca).length cc2)
            have m0 := HM7.out.1.cell 0
            have m1 := HM7.out.1.cell 1
            have m2 := HM7.out.1.cell 2
            simp only [List.getElem?_toArray, List.getElem?_cons_zero, List.getElem?_cons_succ] at m0 m1 m2
            have y0 := HA7.out.2.cell 0
            have y1 := HA7.out.2.cell 1
            have y2 := HA7.out.2.cell 2
            simp only [List.getElem?_toArray, List.getElem?_cons_zero, List.getElem?_cons_succ] at y0 y1 y2
            have f0 := HA7.out.2.frozen 0
            have f1 := HA7.out.2.frozen 1
            have f2 := HA7.out.2.frozen 2
            have e0 := Z6.cell 0
            have e1 := Z6.cell 1
            have e2 := Z6.cell 2
            simp only [List.getElem?_toArray, List.getElem?_cons_zero, List.getElem?_cons_succ] at e0 e1 e2
            have hV6 := HM7.out.1.lt
            clear Z6
            go_wp2_with fail
            rw [HE6.out]
            exact bodyPost_ret (v := .tuple #[.agg #[.int .i64 (nx), .slice (some ⟨g, 0, none⟩) (s5).length cs2, .slice C2 (ca).length cc2], .int .i64 0]) (by simp [results, Try.results23, go_sem, e0, e1, e2]) rfl HF.out
      · have hgt : decide ((0 : Int) ≤ (st.length : Int) - 1) = false := decide_eq_false (by omega)
        have HE7 := hide (show stepMS at_ st ca zs = (at_, st, ca, 2) by rw [HE4.out, show doS nx st ca 5 a = none by rw [doS]; simp [hl]])
        go_wp2_with fail
        refine (HC.out _ ((HR.out.1.below HB4.out).more HB4.out.size) ((HR.out.2.1.below HB4.out).more HB4.out.size)).mono ?_
        rintro e w8 ⟨S8, C8, cs8, cc8, rfl, O8, b8⟩
        have HA8 := hide (And.intro (HA4.out.1.call b8) (HA4.out.2.call b8))
        have HF := hide (stepM_end (n := at_) (r := 2) ⟨O8.1.down HB4.out.size, O8.2.1.down HB4.out.size, O8.2.2⟩ (HB4.out.trans (b8.mono HB4.out.size)) HA8.out.2 (Nat.le_succ _))
        clear O8 b8
        have y0 := HA8.out.2.cell 0
        have y1 := HA8.out.2.cell 1
        have y2 := HA8.out.2.cell 2
        simp only [List.getElem?_toArray, List.getElem?_cons_zero, List.getElem?_cons_succ] at y0 y1 y2
        have f0 := HA8.out.2.frozen 0
        have f1 := HA8.out.2.frozen 1
        have f2 := HA8.out.2.frozen 2
        have Z8 := put3_box HA8.out.2 (.int .i64 at_) (.slice S8 st.length cs8) (.slice C8 ca.length cc8)
        have e0 := Z8.cell 0
        have e1 := Z8.cell 1
        have e2 := Z8.cell 2
        simp only [List.getElem?_toArray, List.getElem?_cons_zero, List.getElem?_cons_succ] at e0 e1 e2
        clear Z8
        go_wp2_with fail
        rw [HE7.out]
        exact bodyPost_ret (v := .tuple #[.agg #[.int .i64 at_, .slice S8 st.length cs8, .slice C8 ca.length cc8], .int .i64 2]) (by simp [results, Try.results23, go_sem, e0, e1, e2]) rfl HF.out
    · have HS := hide (show doS nx st ca 6 a = some (a, st, ca ++ [nx]) from rfl)
      go_wp2_with (at_builtin; refine wpList_app (w4.alloc (.cells #[.int .i64 nx] 3)) rfl (.tmp 65) (.tmp 67) 23 rfl 3 i0 (.int .i64 0) 1 8 Try.underlying23 hi hz0 hz1 hz2 rfl (by decide) w1.heap.size C2 ca.length cc2 (ints .i64 ca) rfl (HM4.out.2.1.2.1.alloc _) ?hb _ 1 1 [.int .i64 nx] rfl (rd_lit w4 #[.int .i64 nx] 3 _ rfl) rfl (fun h => by cases h) oneI1 ?n1 ?n2 ?_)
      case hb => exact Nat.le_trans hsz (by simp)
      case n1 => unfold maxLen; omega
      case n2 => omega
      intro A5 n5 c5 w5 hn5 o5 g5 k5
      have hd5 := (apart_app (w := w4) HM4.out.2.1.2.2.symm (fun k hk => (k5 k hk).imp id (fun h => by omega)) (fun k hk => (HM4.out.2.1.1.lt k hk).2)).symm
      have G5 := MM.grownC (MM.call HM4.out (by (repeat (first | with_reducible assumption | with_reducible exact Below.refl _ _ | with_reducible apply below_al | with_reducible apply below_dr | with_reducible apply below_dn)); done)) g5
      have GX := (HX4.out.call (below_al (Below.refl _ _))).grown g5 (HM4.out.2.1.2.1.box HX4.out (by decide))
      have b5 := below_step (base := w1.heap.size) (w1 := w4) (by (repeat (first | with_reducible assumption | with_reducible exact Below.refl _ _ | with_reducible apply below_al | with_reducible apply below_dr | with_reducible apply below_dn)); done) g5 hsz (fun k hk => (HM4.out.2.1.2.1.lt k hk).1)
      clear m0 m1 m2 f0 f1 f2 x0 x1 hX1 hX2
      have m0 := G5.1.cell 0
      have m1 := G5.1.cell 1
      have m2 := G5.1.cell 2
      have f0 := G5.1.frozen 0
      have f2 := G5.1.frozen 2
      have x0 := GX.cell 0
      have x1 := GX.cell 1
      have hX2 := GX.lt
      simp only [List.getElem?_toArray, List.getElem?_cons_zero, List.getElem?_cons_succ] at m0 m1 m2 x0 x1
      have b6 := (b5.setCell (p := ⟨w2.heap.size, 2, none⟩) HM4.out.2.2 (.slice A5 n5 c5)).setCell (p := ⟨w2.heap.size, 0, none⟩) HM4.out.2.2 (.int .i64 a)
      have M6 := (MM.mkC G5.1 HM4.out.2.2 G5.2 (A := A5) (m := n5) (c := c5) (xs := ca ++ [nx]) (by rw [hn5]; simp) (by simpa [ints] using o5) hd5).at_ a
      have HM6 := hide M6
      have HA6 := hide (And.intro (HA4.out.1.below b6 HXY.out.1) (HA4.out.2.below b6 HXY.out.2))
      have HB6 := hide (HB4.out.trans (b6.mono HH.out))
      clear b6
      have hX1 := G5.1.lt
      have HNN := hide (show n5 = (ca ++ [nx]).length by rw [hn5]; simp)
      clear hn5 o5 g5 k5 hd5 G5 GX b5 M6 q0 q1 q2
      generalize ca ++ [nx] = s5 at *
      obtain rfl := HNN.out
      go_wp2_with fail
      clear m0 m1 m2 f0 f2 x0 x1
      have HE5 := hide (show stepMS at_ st ca zs = if machOk a st s5 then (a, st, s5, (0 : Int)) else (at_, st, ca, (2 : Int)) by rw [HE4.out, HS.out])
      have hls : (st).length ≤ maxLen := Nat.le_trans HM6.out.2.1.1.cap.1 HM6.out.2.1.1.cap.2
      have hlc : (s5).length ≤ maxLen := Nat.le_trans HM6.out.2.1.2.1.cap.1 HM6.out.2.1.2.1.cap.2
      refine (machineValidS_any _ _ _ (st) (s5) _ _ _ HM6.out.2.1.1.rd HM6.out.2.1.2.1.rd hls hlc).mono ?_
      rintro e w7 ⟨rfl, b7⟩
      have HA7 := hide (And.intro (HA6.out.1.call b7) (HA6.out.2.call b7))
      have HB7 := hide (HB6.out.trans (b7.mono HB6.out.size))
      have HM7 := hide (HM6.out.call b7)
      clear b7 hls hlc
      try clear q0 q1 q2
      try clear m0 m1 m2
      cases hk : machOk a st s5
      · rw [hk] at HE5
        have HE6 := hide (show stepMS at_ st ca zs = (at_, st, ca, 2) from HE5.out)
        clear hk
        have q0 := HA7.out.1.cell 0
        have q1 := HA7.out.1.cell 1
        have q2 := HA7.out.1.cell 2
        simp only [List.getElem?_toArray, List.getElem?_cons_zero, List.getElem?_cons_succ] at q0 q1 q2
        go_wp2_with fail
        refine (HC.out _ ((HR.out.1.below HB7.out).more HB7.out.size) ((HR.out.2.1.below HB7.out).more HB7.out.size)).mono ?_
        rintro e w8 ⟨S8, C8, cs8, cc8, rfl, O8, b8⟩
        have HA8 := hide (And.intro (HA7.out.1.call b8) (HA7.out.2.call b8))
        have HF := hide (stepM_end (n := at_) (r := 2) ⟨O8.1.down HB7.out.size, O8.2.1.down HB7.out.size, O8.2.2⟩ (HB7.out.trans (b8.mono HB7.out.size)) HA8.out.2 (Nat.le_succ _))
        clear O8 b8
        have y0 := HA8.out.2.cell 0
        have y1 := HA8.out.2.cell 1
        have y2 := HA8.out.2.cell 2
        simp only [List.getElem?_toArray, List.getElem?_cons_zero, List.getElem?_cons_succ] at y0 y1 y2
        have f0 := HA8.out.2.frozen 0
        have f1 := HA8.out.2.frozen 1
        have f2 := HA8.out.2.frozen 2
        have Z8 := put3_box HA8.out.2 (.int .i64 at_) (.slice S8 st.length cs8) (.slice C8 ca.length cc8)
        have e0 := Z8.cell 0
        have e1 := Z8.cell 1
        have e2 := Z8.cell 2
        simp only [List.getElem?_toArray, List.getElem?_cons_zero, List.getElem?_cons_succ] at e0 e1 e2
        clear Z8
        go_wp2_with fail
        rw [HE6.out]
        exact bodyPost_ret (v := .tuple #[.agg #[.int .i64 at_, .slice S8 st.length cs8, .slice C8 ca.length cc8], .int .i64 2]) (by simp [results, Try.results23, go_sem, e0, e1, e2]) rfl HF.out
      · rw [hk] at HE5
        have HE6 := hide (show stepMS at_ st ca zs = (a, st, s5, 0) from HE5.out)
        clear hk
        have HF := hide (stepM_end (n := a) (r := 0) ⟨HM7.out.2.1.1.down HH.out, HM7.out.2.1.2.1.down HH.out, HM7.out.2.1.2.2⟩ HB7.out HA7.out.2 (Nat.le_succ _))
        have Z6 := put3_box HA7.out.2 (.int .i64 (a)) (.slice S2 (st).length cs2) (.slice A5 (s5).length c5)
        have m0 := HM7.out.1.cell 0
        have m1 := HM7.out.1.cell 1
        have m2 := HM7.out.1.cell 2
        simp only [List.getElem?_toArray, List.getElem?_cons_zero, List.getElem?_cons_succ] at m0 m1 m2
        have y0 := HA7.out.2.cell 0
        have y1 := HA7.out.2.cell 1
        have y2 := HA7.out.2.cell 2
        simp only [List.getElem?_toArray, List.getElem?_cons_zero, List.getElem?_cons_succ] at y0 y1 y2
        have f0 := HA7.out.2.frozen 0
        have f1 := HA7.out.2.frozen 1
        have f2 := HA7.out.2.frozen 2
        have e0 := Z6.cell 0
        have e1 := Z6.cell 1
        have e2 := Z6.cell 2
        simp only [List.getElem?_toArray, List.getElem?_cons_zero, List.getElem?_cons_succ] at e0 e1 e2
        have hV6 := HM7.out.1.lt
        clear Z6
        go_wp2_with fail
        rw [HE6.out]
        exact bodyPost_ret (v := .tuple #[.agg #[.int .i64 (a), .slice S2 (st).length cs2, .slice A5 (s5).length c5], .int .i64 0]) (by simp [results, Try.results23, go_sem, e0, e1, e2]) rfl HF.out
    · by_cases hl : 1 ≤ ca.length
      · have hgt : (0 : Int) < (ca.length : Int) := by omega
        obtain ⟨b, off, hCC, hbw, hv⟩ := (HR.out.2.1.below HB4.out).int (i := ca.length - 1) (by omega)
        obtain ⟨g, hA, v1, hg⟩ := Row.at1 HM4.out.2.1.2.1 (i := ca.length - 1) (by omega)
        have hgd : ca[ca.length - 1] = ca.getD (ca.length - 1) 0 := by rw [List.getD_eq_getElem?_getD, List.getElem?_eq_getElem (by omega)]; rfl
        rw [hgd] at hv
        subst hA hCC
        have HS := hide (show doS nx st ca 7 a = some (ca.getD (ca.length - 1) 0, st, ca.take (ca.length - 1)) by rw [doS]; simp [hl])
        generalize ca.getD (ca.length - 1) 0 = y at *
        have p2 : (0 : Int) ≤ (ca.length : Int) - 1 := by omega
        have p2' : (1 : Int) ≤ (ca.length : Int) := by omega
        have p3 : (ca.length : Int) - 1 < ca.length := by omega
        have hcap := HM4.out.2.1.2.1.cap.1
        have p4 : (ca.length : Int) - 1 ≤ cc2 := by omega
        have p5 : ca.length - 1 ≤ cc2 := by omega
        have HP := hide (show Row w4 w1.heap.size 3 1 (some ⟨g, 0, none⟩) (ca.length - 1) cc2 (ints .i64 (ca.take (ca.length - 1))) by
          have := Row.prefix HM4.out.2.1.2.1 (k := ca.length - 1) (by omega)
          simpa [ints, List.map_take] using this)
        have hlen : ca.length - 1 = (ca.take (ca.length - 1)).length := by simp
        have M5 := HM4.out.at_ y
        have HM6 := hide (MM.mkC M5.1 HM4.out.2.2 M5.2.1.1 hlen (HP.out.set (a := ⟨w2.heap.size, 0, none⟩) (fun k hk => HM4.out.2.1.2.1.box HM4.out.1 (by decide) k hk) (.int .i64 y)) HM4.out.2.1.2.2)
        have b6 := ((Below.refl w1.heap.size w4).setCell (p := ⟨w2.heap.size, 0, none⟩) HM4.out.2.2 (.int .i64 y)).setCell (p := ⟨w2.heap.size, 2, none⟩) HM4.out.2.2 (.slice (some ⟨g, 0, none⟩) (ca.length - 1) cc2)
        have hne : w.heap.size ≠ w2.heap.size := by have h1 := HXY.out.1; have h2 := HM4.out.2.2; omega
        have HA6 := hide (And.intro (HA4.out.1.below b6 HXY.out.1) (HA4.out.2.below b6 HXY.out.2))
        have HB6 := hide (HB4.out.trans (b6.mono HH.out))
        clear b6
        have HL := hide hlen
        clear hlen M5 hgd hg hcap HP q0 q1 q2
        have q0 := HA4.out.1.cell 0
        have q1 := HA4.out.1.cell 1
        have q2 := HA4.out.1.cell 2
        simp only [List.getElem?_toArray, List.getElem?_cons_zero, List.getElem?_cons_succ] at q0 q1 q2
        generalize ca.take (ca.length - 1) = s5 at *
        go_wp2_with fail
        have hL := HL.out
        rw [hL]
        rw [hL] at HM6 HA6 HB6
        clear hL v1 hv p2 p2' p3 p4 p5
        clear m0 m1 m2 f0 f1 f2 x0 x1 q0 q1 q2
        have HE5 := hide (show stepMS at_ st ca zs = if machOk y st s5 then (y, st, s5, (0 : Int)) else (at_, st, ca, (2 : Int)) by rw [HE4.out, HS.out])
        have hls : (st).length ≤ maxLen := Nat.le_trans HM6.out.2.1.1.cap.1 HM6.out.2.1.1.cap.2
        have hlc : (s5).length ≤ maxLen := Nat.le_trans HM6.out.2.1.2.1.cap.1 HM6.out.2.1.2.1.cap.2
        refine (machineValidS_any _ _ _ (st) (s5) _ _ _ HM6.out.2.1.1.rd HM6.out.2.1.2.1.rd hls hlc).mono ?_
        rintro e w7 ⟨rfl, b7⟩
        have HA7 := hide (And.intro (HA6.out.1.call b7) (HA6.out.2.call b7))
        have HB7 := hide (HB6.out.trans (b7.mono HB6.out.size))
        have HM7 := hide (HM6.out.call b7)
        clear b7 hls hlc
        try clear q0 q1 q2
        try clear m0 m1 m2
        cases hk : machOk y st s5
        · rw [hk] at HE5
          have HE6 := hide (show stepMS at_ st ca zs = (at_, st, ca, 2) from HE5.out)
          clear hk
          have q0 := HA7.out.1.cell 0
          have q1 := HA7.out.1.cell 1
          have q2 := HA7.out.1.cell 2
          simp only [List.getElem?_toArray, List.getElem?_cons_zero, List.getElem?_cons_succ] at q0 q1 q2
          go_wp2_with fail
          refine (HC.out _ ((HR.out.1.below HB7.out).more HB7.out.size) ((HR.out.2.1.below HB7.out).more HB7.out.size)).mono ?_
          rintro e w8 ⟨S8, C8, cs8, cc8, rfl, O8, b8⟩
          have HA8 := hide (And.intro (HA7.out.1.call b8) (HA7.out.2.call b8))
          have HF := hide (stepM_end (n := at_) (r := 2) ⟨O8.1.down HB7.out.size, O8.2.1.down HB7.out.size, O8.2.2⟩ (HB7.out.trans (b8.mono HB7.out.size)) HA8.out.2 (Nat.le_succ _))
          clear O8 b8
          have y0 := HA8.out.2.cell 0
          have y1 := HA8.out.2.cell 1
          have y2 := HA8.out.2.cell 2
          simp only [List.getElem?_toArray, List.getElem?_cons_zero, List.getElem?_cons_succ] at y0 y1 y2
          have f0 := HA8.out.2.frozen 0
          have f1 := HA8.out.2.frozen 1
          have f2 := HA8.out.2.frozen 2
          have Z8 := put3_box HA8.out.2 (.int .i64 at_) (.slice S8 st.length cs8) (.slice C8 ca.length cc8)
          have e0 := Z8.cell 0
          have e1 := Z8.cell 1
          have e2 := Z8.cell 2
          simp only [List.getElem?_toArray, List.getElem?_cons_zero, List.getElem?_cons_succ] at e0 e1 e2
          clear Z8
          go_wp2_with fail
          rw [HE6.out]
          exact bodyPost_ret (v := .tuple #[.agg #[.int .i64 at_, .slice S8 st.length cs8, .slice C8 ca.length cc8], .int .i64 2]) (by simp [results, Try.results23, go_sem, e0, e1, e2]) rfl HF.out
        · rw [hk] at HE5
          have HE6 := hide (show stepMS at_ st ca zs = (y, st, s5, 0) from HE5.out)
          clear hk
          have HF := hide (stepM_end (n := y) (r := 0) ⟨HM7.out.2.1.1.down HH.out, HM7.out.2.1.2.1.down HH.out, HM7.out.2.1.2.2⟩ HB7.out HA7.out.2 (Nat.le_succ _))
          have Z6 := put3_box HA7.out.2 (.int .i64 (y)) (.slice S2 (st).length cs2) (.slice (some ⟨g, 0, none⟩) (s5).length cc2)
          have m0 := HM7.out.1.cell 0
          have m1 := HM7.out.1.cell 1
          have m2 := HM7.out.1.cell 2
          simp only [List.getElem?_toArray, List.getElem?_cons_zero, List.getElem?_cons_succ] at m0 m1 m2
          have y0 := HA7.out.2.cell 0
          have y1 := HA7.out.2.cell 1
          have y2 := HA7.out.2.cell 2
          simp only [List.getElem?_toArray, List.getElem?_cons_zero, List.getElem?_cons_succ] at y0 y1 y2
          have f0 := HA7.out.2.frozen 0
          have f1 := HA7.out.2.frozen 1
          have f2 := HA7.out.2.frozen 2
          have e0 := Z6.cell 0
          have e1 := Z6.cell 1
          have e2 := Z6.cell 2
          simp only [List.getElem?_toArray, List.getElem?_cons_zero, List.getElem?_cons_succ] at e0 e1 e2
          have hV6 := HM7.out.1.lt
          clear Z6
          go_wp2_with fail
          rw [HE6.out]
          exact bodyPost_ret (v := .tuple #[.agg #[.int .i64 (y), .slice S2 (st).length cs2, .slice (some ⟨g, 0, none⟩) (s5).length cc2], .int .i64 0]) (by simp [results, Try.results23, go_sem, e0, e1, e2]) rfl HF.out
      · have hgt : decide ((0 : Int) < (ca.length : Int)) = false := decide_eq_false (by omega)
        have HE7 := hide (show stepMS at_ st ca zs = (at_, st, ca, 2) by rw [HE4.out, show doS nx st ca 7 a = none by rw [doS]; simp [hl]])
        go_wp2_with fail
        refine (HC.out _ ((HR.out.1.below HB4.out).more HB4.out.size) ((HR.out.2.1.below HB4.out).more HB4.out.size)).mono ?_
        rintro e w8 ⟨S8, C8, cs8, cc8, rfl, O8, b8⟩
        have HA8 := hide (And.intro (HA4.out.1.call b8) (HA4.out.2.call b8))
        have HF := hide (stepM_end (n := at_) (r := 2) ⟨O8.1.down HB4.out.size, O8.2.1.down HB4.out.size, O8.2.2⟩ (HB4.out.trans (b8.mono HB4.out.size)) HA8.out.2 (Nat.le_succ _))
        clear O8 b8
        have y0 := HA8.out.2.cell 0
        have y1 := HA8.out.2.cell 1
        have y2 := HA8.out.2.cell 2
        simp only [List.getElem?_toArray, List.getElem?_cons_zero, List.getElem?_cons_succ] at y0 y1 y2
        have f0 := HA8.out.2.frozen 0
        have f1 := HA8.out.2.frozen 1
        have f2 := HA8.out.2.frozen 2
        have Z8 := put3_box HA8.out.2 (.int .i64 at_) (.slice S8 st.length cs8) (.slice C8 ca.length cc8)
        have e0 := Z8.cell 0
        have e1 := Z8.cell 1
        have e2 := Z8.cell 2
        simp only [List.getElem?_toArray, List.getElem?_cons_zero, List.getElem?_cons_succ] at e0 e1 e2
        clear Z8
        go_wp2_with fail
        rw [HE7.out]
        exact bodyPost_ret (v := .tuple #[.agg #[.int .i64 at_, .slice S8 st.length cs8, .slice C8 ca.length cc8], .int .i64 2]) (by simp [results, Try.results23, go_sem, e0, e1, e2]) rfl HF.out
theorem stepMachineS_any (at_ : Int) (S C A : Option Addr) (st ca zs : List Int) (cs cc c : Nat) (w : World) (hs : Rd w w.heap.size S (ints .i64 st)) (hc : Rd w w.heap.size C (ints .i64 ca)) (hr : Rd w w.heap.size A (ints .u8 zs)) (hz : InR 0 255 zs) (hsm : st.length ≤ 1048576) (hcm : ca.length ≤ 1048576) (hzm : zs.length ≤ 1048576) (hns : S = none → cs = 0) (hnc : C = none → cc = 0) :
    Calls Try.prog 23 #[.agg #[.int .i64 at_, .slice S st.length cs, .slice C ca.length cc], .slice A zs.length c] w (SteppedM (stepM at_ st ca zs) w) :=
  stepMS_eq at_ st ca zs ▸ stepMachineS_go at_ S C A st ca zs cs cc c w hs hc hr hz hsm hcm hzm hns hnc
end Go.Proofs.Ytjnnjgogpapbhaa.CStepS
