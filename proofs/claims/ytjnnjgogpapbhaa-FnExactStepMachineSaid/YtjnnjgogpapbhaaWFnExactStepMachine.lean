/- The walk of FnExactStepMachine: the program and the reference answer alike, the arguments read as they did, and the answer's memory is its own. -/
import Derived.Test.YtjnnjgogpapbhaaCStepI
import Derived.Test.YtjnnjgogpapbhaaCStepS
import Derived.Test.YtjnnjgogpapbhaaCMark
import Derived.Test.YtjnnjgogpapbhaaCBytes
import Derived.Deep.RegionHeld3
namespace Go.Proofs.Ytjnnjgogpapbhaa.WFnExactStepMachine
set_option maxRecDepth 200000
open Go.ChangeShapes Go.WideShapes Go.ChangeAt Go.RowKit Kit CMachines CStep CDo CStepI CStepS CMark
theorem six {w w' : World} {a b : Nat} {u0 u1 u2 v0 v1 v2 : Value} (hb : Below w.heap.size w w') (ha : a < w.heap.size) (hb' : b < w.heap.size) (h : w.cell? ⟨a, 0, none⟩ = some u0 ∧ w.cell? ⟨a, 1, none⟩ = some u1 ∧ w.cell? ⟨a, 2, none⟩ = some u2 ∧ w.cell? ⟨b, 0, none⟩ = some v0 ∧ w.cell? ⟨b, 1, none⟩ = some v1 ∧ w.cell? ⟨b, 2, none⟩ = some v2) :
    w'.cell? ⟨a, 0, none⟩ = some u0 ∧ w'.cell? ⟨a, 1, none⟩ = some u1 ∧ w'.cell? ⟨a, 2, none⟩ = some u2 ∧ w'.cell? ⟨b, 0, none⟩ = some v0 ∧ w'.cell? ⟨b, 1, none⟩ = some v1 ∧ w'.cell? ⟨b, 2, none⟩ = some v2 :=
  ⟨(hb.cell ha).trans h.1, (hb.cell ha).trans h.2.1, (hb.cell ha).trans h.2.2.1, (hb.cell hb').trans h.2.2.2.1, (hb.cell hb').trans h.2.2.2.2.1, (hb.cell hb').trans h.2.2.2.2.2⟩
theorem stepM_len (a : Int) (st ca zs : List Int) (hm : st.length ≤ 1048576) (hm' : ca.length ≤ 1048576) : (stepM a st ca zs).2.1.length ≤ 1048600 ∧ (stepM a st ca zs).2.2.1.length ≤ 1048600 := by
  unfold stepM
  split
  · unfold stepR
    split
    · exact ⟨by simpa using (by omega), by simpa using (by omega)⟩
    · split
      · exact ⟨by simpa using (by omega), by simpa using (by omega)⟩
      · split
        · rename_i n s c heq
          unfold doM at heq
          have key : s.length ≤ st.length + 1 ∧ c.length ≤ ca.length + 1 := by
            repeat' split at heq
            all_goals first
              | (cases heq; done)
              | (simp only [Option.some.injEq, Prod.mk.injEq] at heq
                 obtain ⟨_, rfl, rfl⟩ := heq
                 simp
                 try omega)
          exact ⟨by simpa using (by omega), by simpa using (by omega)⟩
        · exact ⟨by simpa using (by omega), by simpa using (by omega)⟩
  · exact ⟨by simp, by simp⟩
set_option maxHeartbeats 8000000 in
theorem walk (at_ : Int) (S C : Option Addr) (st ca : List Int) (cs cc : Nat) (hls : st.length ≤ cs) (hlc : ca.length ≤ cc) (hcs : cs ≤ maxLen) (hcc : cc ≤ maxLen) (A : Option Addr) (zs : List Int) (c : Nat) (hl : zs.length ≤ c) (hc : c ≤ maxLen) (hz : InR 0 255 zs) (w : World) (hs : Rd w w.heap.size S (ints .i64 st)) (hca : Rd w w.heap.size C (ints .i64 ca)) (hr : Rd w w.heap.size A (ints .u8 zs)) :
    Calls Try.prog 5 #[.agg #[.int .i64 at_, .slice S st.length cs, .slice C ca.length cc], .slice A zs.length c] w (LawEnds w) := by
  have hcm := hc
  unfold maxLen at hcm
  by_cases hzb : 1048576 < zs.length
  · go_enter Try.func5, Try.ntmps5
    go_wp2_with fail
    go_ret
    exact ⟨rfl, (by repeat (first | exact Below.refl _ _ | with_reducible assumption | (refine Below.drew ?_) | (refine Below.drewN ?_ _) | (refine Below.alloc ?_ (by simp; try omega) _) | (refine Below.setCell ?_ (by simp; try omega) _)))⟩
  have HZ := hide (szMachine_any at_ S C st.length ca.length cs cc 1048576 (w.alloc (.cells #[.int .i64 at_, .slice S st.length cs, .slice C ca.length cc] 46)) (by decide) (by decide) (Nat.le_trans hls hcs) (Nat.le_trans hlc hcc))
  by_cases hbig : 1048576 - (st.length : Int) - ca.length < 0
  · rw [if_pos hbig] at HZ
    go_enter Try.func5, Try.ntmps5
    go_wp2_with fail
    refine HZ.out.mono ?_
    rintro e w' ⟨rfl, hb⟩
    have HB := (show Below w.heap.size w (w.alloc (.cells #[.int .i64 at_, .slice S st.length cs, .slice C ca.length cc] 46)) from (by repeat (first | exact Below.refl _ _ | with_reducible assumption | (refine Below.drew ?_) | (refine Below.drewN ?_ _) | (refine Below.alloc ?_ (by simp; try omega) _) | (refine Below.setCell ?_ (by simp; try omega) _)))).trans (hb.mono (by simp))
    go_wp2_with fail
    go_ret
    exact ⟨rfl, HB⟩
  rw [if_neg hbig] at HZ
  have hm1 : st.length ≤ 1048576 := by omega
  have hm2 : ca.length ≤ 1048576 := by omega
  have hm3 : zs.length ≤ 1048576 := by omega
  have hm1' : st.length ≤ maxLen := by unfold maxLen; omega
  have hm2' : ca.length ≤ maxLen := by unfold maxLen; omega
  have hm3' : zs.length ≤ maxLen := by unfold maxLen; omega
  generalize hL : (1048576 - (st.length : Int) - ca.length) = L at *
  have hL0 : 0 ≤ L := by omega
  have HZZ := hide hz
  have HM := hide (And.intro hm1' (And.intro hm2' hm3'))
  have HR := hide (And.intro hs (And.intro hca hr))
  clear hL hbig hcs hcc hls hlc hc hl hzb hz hm1' hm2' hm3' hs hca hr
  go_enter Try.func5, Try.ntmps5
  go_wp2_with fail
  have HB := hide (show Below w.heap.size w (w.alloc (.cells #[.int .i64 at_, .slice S st.length cs, .slice C ca.length cc] 46)) from (by repeat (first | exact Below.refl _ _ | with_reducible assumption | (refine Below.drew ?_) | (refine Below.drewN ?_ _) | (refine Below.alloc ?_ (by simp; try omega) _) | (refine Below.setCell ?_ (by simp; try omega) _))))
  have HX := hide (Box.new w 46 #[.int .i64 at_, .slice S st.length cs, .slice C ca.length cc])
  refine HZ.out.mono ?_
  clear HZ
  generalize (w.alloc (.cells #[.int .i64 at_, .slice S st.length cs, .slice C ca.length cc] 46)) = wa at *
  rintro e w0 ⟨rfl, b0⟩
  replace HB := hide (HB.out.trans (b0.mono HB.out.size))
  replace HX := hide (HX.out.call b0)
  clear b0
  have q0 := HX.out.cell 0
  have q1 := HX.out.cell 1
  have q2 := HX.out.cell 2
  simp only [List.getElem?_toArray, List.getElem?_cons_zero, List.getElem?_cons_succ] at q0 q1 q2
  go_wp2_with fail
  refine (toMachine_any at_ S C st ca cs cc _ ((HR.out.1.below HB.out).more HB.out.size) ((HR.out.2.1.below HB.out).more HB.out.size) hm1 hm2).mono ?_
  rintro e w1 ⟨S1, cs1, C1, cc1, rfl, o1, b1⟩
  replace HB := hide (HB.out.trans (b1.mono HB.out.size))
  replace HX := hide (HX.out.call b1)
  have R1 := hide (rows2_of_own (Own2.of_two o1))
  clear o1 b1 q0 q1 q2
  go_wp2_with fail
  refine (CBytes.toByteS_any A zs c w1 ((HR.out.2.2.below HB.out).more HB.out.size) hm3).mono ?_
  rintro e w2 ⟨A2, c2, rfl, o2, b2⟩
  replace HB := hide (HB.out.trans (b2.mono HB.out.size))
  replace HX := hide (HX.out.call b2)
  replace R1 := hide (Rows2.call R1.out b2)
  have R2 := hide (Rd.of_own o2)
  clear o2 b2
  go_wp2_with fail
  refine (stepMachineS_any at_ S1 C1 A2 st ca zs cs1 cc1 c2 w2 R1.out.1.rd R1.out.2.1.rd R2.out HZZ.out hm1 hm2 hm3 R1.out.1.nil R1.out.2.1.nil).mono ?_
  clear R1 R2
  have HT := hide (stepM_len at_ st ca zs hm1 hm2)
  have HTT := hide (fun W S C A cs cc c h1 h2 h3 h4 h5 => stepMachine_any at_ S C A st ca zs cs cc c W h1 h2 h3 HZZ.out hm1 hm2 hm3 h4 h5)
  generalize stepM at_ st ca zs = T at *
  obtain ⟨n, s, k, r⟩ := T
  have hT1 := HT.out.1
  have hT2 := HT.out.2
  simp only at hT1 hT2
  have hT1' : s.length ≤ maxLen := by unfold maxLen; omega
  have hT2' : k.length ≤ maxLen := by unfold maxLen; omega
  rintro e w3 ⟨S3, C3, cs3, cc3, rfl, R3, b3⟩
  replace HB := hide (HB.out.trans (b3.mono HB.out.size))
  replace HX := hide (HX.out.call b3)
  have RW := hide (And.intro R3.1.rd R3.2.1.rd)
  clear R3 b3
  have q0 := HX.out.cell 0
  have q1 := HX.out.cell 1
  have q2 := HX.out.cell 2
  simp only [List.getElem?_toArray, List.getElem?_cons_zero, List.getElem?_cons_succ] at q0 q1 q2
  have hx := HX.out.lt
  go_wp2_with fail
  have HW := hide (Box.new w3 25 #[.int .i64 n, .slice S3 s.length cs3, .slice C3 k.length cc3])
  have bx := below_al (o := .cells #[.int .i64 n, .slice S3 s.length cs3, .slice C3 k.length cc3] 25) (Below.refl w3.heap.size w3)
  replace HB := hide (HB.out.trans (bx.mono HB.out.size))
  replace HX := hide (HX.out.call bx)
  replace RW := hide (And.intro ((RW.out.1.below bx).more bx.size) ((RW.out.2.below bx).more bx.size))
  clear bx q0 q1 q2 hx
  generalize hW : (w3.alloc (.cells #[.int .i64 n, .slice S3 s.length cs3, .slice C3 k.length cc3] 25)) = v at *
  clear hW
  have HD := hide (Below.refl v.heap.size v)
  have hXv := HX.out.lt
  have hWv := HW.out.lt
  have HRv := hide (And.intro ((HR.out.1.below HB.out).more HB.out.size) (And.intro ((HR.out.2.1.below HB.out).more HB.out.size) ((HR.out.2.2.below HB.out).more HB.out.size)))
  refine (toMachine_any at_ S C st ca cs cc v ((HRv.out.1.below HD.out).more HD.out.size) ((HRv.out.2.1.below HD.out).more HD.out.size) hm1 hm2).mono ?_
  rintro e w4 ⟨S4, cs4, C4, cc4, rfl, o4, b4⟩
  replace HD := hide (below_call HD.out b4)
  have RX := hide (rows2_of_own (Own2.of_two o4))
  clear b4 o4
  go_wp2_with fail
  have HE := hide (Box.new w4 25 #[.int .i64 at_, .slice S4 st.length cs4, .slice C4 ca.length cc4])
  have bx := below_al (o := .cells #[.int .i64 at_, .slice S4 st.length cs4, .slice C4 ca.length cc4] 25) (Below.refl w4.heap.size w4)
  replace HD := hide (below_call HD.out bx)
  replace RX := hide (Rows2.call RX.out bx)
  clear bx
  generalize hW : (w4.alloc (.cells #[.int .i64 at_, .slice S4 st.length cs4, .slice C4 ca.length cc4] 25)) = w5 at *
  clear hW
  have HLX := hide (show ∀ j, mblk S4 cs4 C4 cc4 j → v.heap.size ≤ j ∧ j < w5.heap.size from fun j hj => hj.elim (fun h => RX.out.1.lt j h) (fun h => RX.out.2.1.lt j h))
  have hv5 := HD.out.size
  refine (CBytes.toByteS_any A zs c w5 ((HRv.out.2.2.below HD.out).more HD.out.size) hm3).mono ?_
  rintro e w6 ⟨A6, c6, rfl, o6, b6⟩
  replace HD := hide (below_call HD.out b6)
  replace RX := hide (Rows2.call RX.out b6)
  replace HE := hide (HE.out.call b6)
  have RB := hide o6
  have hs56 := b6.size
  have HLB := hide (fun j hj => o6.lt j hj)
  clear b6 o6
  have q0 := HE.out.cell 0
  have q1 := HE.out.cell 1
  have q2 := HE.out.cell 2
  simp only [List.getElem?_toArray, List.getElem?_cons_zero, List.getElem?_cons_succ] at q0 q1 q2
  have hE := HE.out.lt
  go_wp2_with fail
  refine (HTT.out w6 S4 C4 A6 cs4 cc4 c6 RX.out.1.rd RX.out.2.1.rd (Rd.of_own RB.out) RX.out.1.nil RX.out.2.1.nil).mono ?_
  rintro e w7 ⟨S7, C7, cs7, cc7, rfl, R7, b7⟩
  replace HD := hide (below_call HD.out b7)
  replace RX := hide (Rows2.call RX.out b7)
  replace HE := hide (HE.out.call b7)
  replace RB := hide (own_call b7 RB.out)
  have RG := hide R7
  clear b7 R7 q0 q1 q2 hE
  have HWc := hide (HW.out.below HD.out hWv)
  have g0 := HWc.out.cell 0
  have g1 := HWc.out.cell 1
  have g2 := HWc.out.cell 2
  simp only [List.getElem?_toArray, List.getElem?_cons_zero, List.getElem?_cons_succ] at g0 g1 g2
  have hg7 := HWc.out.lt
  go_wp2_with fail
  have HG := hide (Box.new w7 25 #[.int .i64 n, .slice S7 s.length cs7, .slice C7 k.length cc7])
  have bx := below_al (o := .cells #[.int .i64 n, .slice S7 s.length cs7, .slice C7 k.length cc7] 25) (Below.refl w7.heap.size w7)
  replace HD := hide (below_call HD.out bx)
  replace RX := hide (Rows2.call RX.out bx)
  replace HE := hide (HE.out.call bx)
  replace RG := hide (Rows2.call RG.out bx)
  replace RB := hide (own_call bx RB.out)
  clear bx
  generalize hW : (w7.alloc (.cells #[.int .i64 n, .slice S7 s.length cs7, .slice C7 k.length cc7] 25)) = w8 at *
  clear hW
  refine (eqMachine_same n S7 S3 C7 C3 s k cs7 cs3 cc7 cc3 w8 RG.out.1.rd ((RW.out.1.below HD.out).more HD.out.size) RG.out.2.1.rd ((RW.out.2.below HD.out).more HD.out.size) hT1' hT2').mono ?_
  rintro e w9 ⟨rfl, b9⟩
  replace HD := hide (below_call HD.out b9)
  replace RX := hide (Rows2.call RX.out b9)
  replace HE := hide (HE.out.call b9)
  replace RG := hide (Rows2.call RG.out b9)
  replace HG := hide (HG.out.call b9)
  replace RB := hide (own_call b9 RB.out)

  clear b9
  clear g0 g1 g2 hg7
  have hrr : (r != r) = false := by simp
  have y0 := HE.out.cell 0
  have y1 := HE.out.cell 1
  have y2 := HE.out.cell 2
  simp only [List.getElem?_toArray, List.getElem?_cons_zero, List.getElem?_cons_succ] at y0 y1 y2
  have hy := HE.out.lt
  have HXc := hide (HX.out.below HD.out hXv)
  have q0 := HXc.out.cell 0
  have q1 := HXc.out.cell 1
  have q2 := HXc.out.cell 2
  simp only [List.getElem?_toArray, List.getElem?_cons_zero, List.getElem?_cons_succ] at q0 q1 q2
  have hx := HXc.out.lt
  go_wp2_with fail
  have Z4 : w9.cell? ⟨w4.heap.size, 0, none⟩ = some (.int .i64 at_) ∧ w9.cell? ⟨w4.heap.size, 1, none⟩ = some (.slice S4 st.length cs4) ∧ w9.cell? ⟨w4.heap.size, 2, none⟩ = some (.slice C4 ca.length cc4) ∧ w9.cell? ⟨w.heap.size, 0, none⟩ = some (.int .i64 at_) ∧ w9.cell? ⟨w.heap.size, 1, none⟩ = some (.slice S st.length cs) ∧ w9.cell? ⟨w.heap.size, 2, none⟩ = some (.slice C ca.length cc) := ⟨y0, y1, y2, q0, q1, q2⟩
  clear y0 y1 y2 q0 q1 q2
  go_region_held3 (fun (W : World) => W.cell? ⟨w4.heap.size, 0, none⟩ = some (.int .i64 at_) ∧ W.cell? ⟨w4.heap.size, 1, none⟩ = some (.slice S4 st.length cs4) ∧ W.cell? ⟨w4.heap.size, 2, none⟩ = some (.slice C4 ca.length cc4) ∧ W.cell? ⟨w.heap.size, 0, none⟩ = some (.int .i64 at_) ∧ W.cell? ⟨w.heap.size, 1, none⟩ = some (.slice S st.length cs) ∧ W.cell? ⟨w.heap.size, 2, none⟩ = some (.slice C ca.length cc)) (first | exact Z4 | exact Z5 | exact Z6) (first | (go_at_call 24; refine (toMachine_any at_ S C st ca cs cc _ (by exact ((HRv.out.1.below HD.out).more HD.out.size)) (by exact ((HRv.out.2.1.below HD.out).more HD.out.size)) hm1 hm2).mono ?_; rintro e w10 ⟨S10, cs10, C10, cc10, rfl, ⟨_, o10, o10', _⟩, hb10⟩; have HR10 := hide (And.intro (Rd.of_own o10) (Rd.of_own o10')); have HB10 := hide (below_drawn hb10); have Z5 := six HB10.out hy hx Z4; clear o10 o10' hb10) | (go_at_call 27; refine (eqMachine_same at_ S4 S10 C4 C10 st ca cs4 cs10 cc4 cc10 _ (by exact (RX.out.1.call HB10.out).rd) (by exact HR10.out.1) (by exact (RX.out.2.1.call HB10.out).rd) (by exact HR10.out.2) HM.out.1 HM.out.2.1).mono ?_; rintro e w11 ⟨rfl, hb11⟩; have HB11 := hide (below_drawn hb11); have Z6 := six HB11.out (Nat.lt_of_lt_of_le hy HB10.out.size) (Nat.lt_of_lt_of_le hx HB10.out.size) Z5; clear hb11))
  have b11 := HB10.out.trans (HB11.out.mono HB10.out.size)
  replace HD := hide (below_call HD.out b11)
  replace RX := hide (Rows2.call RX.out b11)
  replace HE := hide (HE.out.call b11)
  replace RG := hide (Rows2.call RG.out b11)
  replace HG := hide (HG.out.call b11)
  replace RB := hide (own_call b11 RB.out)
  clear b11 Z4 Z5 Z6 HB10 HB11 HR10 HXc HWc hy hx
  try simp only [List.getElem_toArray, List.getElem_cons_succ, List.getElem_cons_zero, Act.put, List.setIfInBounds_toArray, List.set_cons_zero, List.set_cons_succ]
  go_wp2_with fail
  refine (CBytes.toByteS_any A zs c w11 ((HRv.out.2.2.below HD.out).more HD.out.size) hm3).mono ?_
  rintro e w12 ⟨A12, c12, rfl, o12, b12⟩
  replace HD := hide (below_call HD.out b12)
  replace RX := hide (Rows2.call RX.out b12)
  replace HE := hide (HE.out.call b12)
  replace RG := hide (Rows2.call RG.out b12)
  replace HG := hide (HG.out.call b12)
  replace RB := hide (own_call b12 RB.out)
  have R12 := hide (Rd.of_own o12)
  clear b12 o12
  go_wp2_with fail
  refine (CBytes.eqByteS_any A6 A12 zs zs c6 c12 _ w12 (Rd.of_own RB.out) R12.out HM.out.2.2 HM.out.2.2).mono ?_
  rintro e w13 ⟨rfl, n13, hw⟩
  simp only [beq_self_eq_true]
  have b13 : Below w12.heap.size w12 w13 := by rw [hw]; exact Kit.Below.drewN (Below.refl _ _) n13
  clear hw R12
  replace HD := hide (below_call HD.out b13)
  replace RX := hide (Rows2.call RX.out b13)
  replace HE := hide (HE.out.call b13)
  replace RG := hide (Rows2.call RG.out b13)
  replace HG := hide (HG.out.call b13)
  replace RB := hide (own_call b13 RB.out)
  clear b13
  have y0 := HE.out.cell 0
  have y1 := HE.out.cell 1
  have y2 := HE.out.cell 2
  simp only [List.getElem?_toArray, List.getElem?_cons_zero, List.getElem?_cons_succ] at y0 y1 y2
  go_wp2_with fail
  refine (mark_machine at_ v.heap.size S4 C4 cs4 cc4 st ca 1 w13 (by omega) (by omega) (by omega) (by omega) RX.out).mono ?_
  rintro e w14 ⟨rfl, r14, g14⟩
  replace HG := hide (g14.box HG.out (fun hp => hp.elim (fun h => RX.out.1.box HG.out (by decide) _ h rfl) (fun h => RX.out.2.1.box HG.out (by decide) _ h rfl)))
  replace HD := hide (Gp.below HD.out g14 HD.out.size (fun j hj => (HLX.out j hj).1))
  replace RB := hide (own_keep RB.out fun j hj => g14.block j (RB.out.lt j hj).2 (fun hp => by have h1 := (RB.out.lt j hj).1; have h2 := (HLX.out j hp).2; omega))
  replace RG := hide (show Rows2 w14 w6.heap.size S7 cs7 s C7 cc7 k from ⟨g14.row RG.out.1 (fun j hj hp => by have h1 := (RG.out.1.lt j hj).1; have h2 := (HLX.out j hp).2; omega), g14.row RG.out.2.1 (fun j hj hp => by have h1 := (RG.out.2.1.lt j hj).1; have h2 := (HLX.out j hp).2; omega), RG.out.2.2⟩)
  clear r14 g14 RX HE y0 y1 y2
  go_wp2_with fail
  refine (CBytes.mark_any _ A6 c6 zs (1 + st.length + ca.length) w14 (by omega) (by omega) (by omega) RB.out).mono ?_
  rintro e w15 ⟨rfl, r15, g15⟩
  replace HG := hide (HG.out.grown g15 (own_box RB.out HG.out (by decide)))
  replace HD := hide (HD.out.grown g15 HD.out.size (fun j hj => Nat.le_trans hv5 (RB.out.lt j hj).1))
  replace RG := hide (show Rows2 w15 w6.heap.size S7 cs7 s C7 cc7 k from ⟨RG.out.1.grown g15 (fun j hj hp => by have h1 := (RG.out.1.lt j hj).1; have h2 := (HLB.out j hp).2; omega), RG.out.2.1.grown g15 (fun j hj hp => by have h1 := (RG.out.2.1.lt j hj).1; have h2 := (HLB.out j hp).2; omega), RG.out.2.2⟩)
  clear r15 g15 RB
  have HWc := hide (HW.out.below HD.out hWv)
  have g0 := HWc.out.cell 0
  have g1 := HWc.out.cell 1
  have g2 := HWc.out.cell 2
  simp only [List.getElem?_toArray, List.getElem?_cons_zero, List.getElem?_cons_succ] at g0 g1 g2
  have y0 := HG.out.cell 0
  have y1 := HG.out.cell 1
  have y2 := HG.out.cell 2
  simp only [List.getElem?_toArray, List.getElem?_cons_zero, List.getElem?_cons_succ] at y0 y1 y2
  go_wp2_with fail
  refine (eqMachine_same n S7 S3 C7 C3 s k cs7 cs3 cc7 cc3 w15 RG.out.1.rd ((RW.out.1.below HD.out).more HD.out.size) RG.out.2.1.rd ((RW.out.2.below HD.out).more HD.out.size) hT1' hT2').mono ?_
  rintro e w16 ⟨rfl, b16⟩
  replace HD := hide (below_call HD.out b16)
  replace RG := hide (Rows2.call RG.out b16)
  replace HG := hide (HG.out.call b16)

  clear b16
  clear g0 g1 g2 y0 y1 y2 HWc
  have y0 := HG.out.cell 0
  have y1 := HG.out.cell 1
  have y2 := HG.out.cell 2
  simp only [List.getElem?_toArray, List.getElem?_cons_zero, List.getElem?_cons_succ] at y0 y1 y2
  have hs6 : v.heap.size ≤ w6.heap.size := Nat.le_trans hv5 hs56
  go_wp2_with fail
  refine (mark_machine n w6.heap.size S7 C7 cs7 cc7 s k 1 w16 (by omega) (by omega) (by omega) (by omega) RG.out).mono ?_
  rintro e w17 ⟨rfl, r17, g17⟩
  replace HG := hide (g17.box HG.out (fun hp => hp.elim (fun h => RG.out.1.box HG.out (by decide) _ h rfl) (fun h => RG.out.2.1.box HG.out (by decide) _ h rfl)))
  replace HD := hide (Gp.below HD.out g17 HD.out.size (fun j hj => hj.elim (fun h => Nat.le_trans hs6 (RG.out.1.lt j h).1) (fun h => Nat.le_trans hs6 (RG.out.2.1.lt j h).1)))
  clear RG
  have RG := hide r17
  clear r17 g17 y0 y1 y2
  have y0 := HG.out.cell 0
  have y1 := HG.out.cell 1
  have y2 := HG.out.cell 2
  simp only [List.getElem?_toArray, List.getElem?_cons_zero, List.getElem?_cons_succ] at y0 y1 y2
  go_wp2_with fail
  refine (held_machine n w17.heap.size S7 C7 cs7 cc7 s.length k.length 1 w17 (by omega) (by omega) (by omega) (by omega) RG.out.1.rd (by have := RG.out.2.1.rd; exact this) (Nat.le_refl _)).mono ?_
  rintro e w18 ⟨rfl, b18⟩
  replace HD := hide (below_call HD.out b18)
  replace RG := hide (Rows2.call RG.out b18)
  replace HG := hide (HG.out.call b18)

  clear b18
  clear y0 y1 y2
  have HXc := hide (HX.out.below HD.out hXv)
  have q0 := HXc.out.cell 0
  have q1 := HXc.out.cell 1
  have q2 := HXc.out.cell 2
  simp only [List.getElem?_toArray, List.getElem?_cons_zero, List.getElem?_cons_succ] at q0 q1 q2
  have hx := HXc.out.lt
  go_wp2_with fail
  refine (toMachine_any at_ S C st ca cs cc w18 ((HRv.out.1.below HD.out).more HD.out.size) ((HRv.out.2.1.below HD.out).more HD.out.size) hm1 hm2).mono ?_
  rintro e w19 ⟨S19, cs19, C19, cc19, rfl, o19, b19⟩
  replace HD := hide (below_call HD.out b19)
  replace RG := hide (Rows2.call RG.out b19)
  replace HG := hide (HG.out.call b19)
  have R19 := hide (rows2_of_own (Own2.of_two o19))
  clear b19 o19 HXc q0 q1 q2 hx
  go_wp2_with fail
  refine (CBytes.toByteS_any A zs c w19 ((HRv.out.2.2.below HD.out).more HD.out.size) hm3).mono ?_
  rintro e w20 ⟨A20, c20, rfl, o20, b20⟩
  replace HD := hide (below_call HD.out b20)
  replace RG := hide (Rows2.call RG.out b20)
  replace HG := hide (HG.out.call b20)
  replace R19 := hide (Rows2.call R19.out b20)
  have R20 := hide (Rd.of_own o20)
  clear b20 o20
  go_wp2_with fail
  refine (HTT.out w20 S19 C19 A20 cs19 cc19 c20 R19.out.1.rd R19.out.2.1.rd R20.out R19.out.1.nil R19.out.2.1.nil).mono ?_
  rintro e w21 ⟨S21, C21, cs21, cc21, rfl, R21, b21⟩
  replace HD := hide (below_call HD.out b21)
  replace RG := hide (Rows2.call RG.out b21)
  replace HG := hide (HG.out.call b21)
  have RH := hide R21
  clear b21 R21 R19 R20
  have HWc := hide (HW.out.below HD.out hWv)
  have g0 := HWc.out.cell 0
  have g1 := HWc.out.cell 1
  have g2 := HWc.out.cell 2
  simp only [List.getElem?_toArray, List.getElem?_cons_zero, List.getElem?_cons_succ] at g0 g1 g2
  have hg7 := HWc.out.lt
  go_wp2_with fail
  have bx := below_al (o := .cells #[.int .i64 n, .slice S21 s.length cs21, .slice C21 k.length cc21] 25) (Below.refl w21.heap.size w21)
  replace HD := hide (below_call HD.out bx)
  replace RG := hide (Rows2.call RG.out bx)
  replace HG := hide (HG.out.call bx)
  replace RH := hide (Rows2.call RH.out bx)
  clear bx
  generalize hW : (w21.alloc (.cells #[.int .i64 n, .slice S21 s.length cs21, .slice C21 k.length cc21] 25)) = w22 at *
  clear hW
  refine (eqMachine_same n S21 S3 C21 C3 s k cs21 cs3 cc21 cc3 w22 RH.out.1.rd ((RW.out.1.below HD.out).more HD.out.size) RH.out.2.1.rd ((RW.out.2.below HD.out).more HD.out.size) hT1' hT2').mono ?_
  rintro e w23 ⟨rfl, b23⟩
  replace HD := hide (below_call HD.out b23)
  replace RG := hide (Rows2.call RG.out b23)
  replace HG := hide (HG.out.call b23)
  replace RH := hide (Rows2.call RH.out b23)

  clear b23
  clear g0 g1 g2 hg7 HWc RH
  have y0 := HG.out.cell 0
  have y1 := HG.out.cell 1
  have y2 := HG.out.cell 2
  simp only [List.getElem?_toArray, List.getElem?_cons_zero, List.getElem?_cons_succ] at y0 y1 y2
  go_wp2_with fail
  refine (held_machine n w23.heap.size S7 C7 cs7 cc7 s.length k.length 1 w23 (by omega) (by omega) (by omega) (by omega) RG.out.1.rd (by have := RG.out.2.1.rd; exact this) (Nat.le_refl _)).mono ?_
  rintro e w24 ⟨rfl, b24⟩
  replace HD := hide (below_call HD.out b24)

  clear b24
  go_wp2_with fail
  go_ret
  exact ⟨rfl, HB.out.trans (HD.out.mono HB.out.size)⟩
end Go.Proofs.Ytjnnjgogpapbhaa.WFnExactStepMachine
