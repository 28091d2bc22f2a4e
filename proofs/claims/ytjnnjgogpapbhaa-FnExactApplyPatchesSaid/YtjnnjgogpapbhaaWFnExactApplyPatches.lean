/- The walk of FnExactApplyPatches: the program and the reference answer alike, the arguments read as they did, and the answer's memory is its own. -/
import Derived.Test.YtjnnjgogpapbhaaCApplyI
import Derived.Test.YtjnnjgogpapbhaaCApplyS
import Derived.Test.YtjnnjgogpapbhaaIn2
import Derived.Deep.RegionHeld3
namespace Go.Proofs.Ytjnnjgogpapbhaa.WFnExactApplyPatches
set_option maxRecDepth 200000
open Go.ChangeShapes Go.WideShapes Go.ChangeAt Go.RowKit Kit CCode CImage CPatch PPatch BPatch CPatches CPatValid BApply CPatches2 CApplyI CApplyS
theorem four {w w' : World} {a b : Nat} {u0 u1 v0 v1 : Value} (hb : Below w.heap.size w w') (ha : a < w.heap.size) (hb' : b < w.heap.size) (h : w.cell? ⟨a, 0, none⟩ = some u0 ∧ w.cell? ⟨a, 1, none⟩ = some u1 ∧ w.cell? ⟨b, 0, none⟩ = some v0 ∧ w.cell? ⟨b, 1, none⟩ = some v1) :
    w'.cell? ⟨a, 0, none⟩ = some u0 ∧ w'.cell? ⟨a, 1, none⟩ = some u1 ∧ w'.cell? ⟨b, 0, none⟩ = some v0 ∧ w'.cell? ⟨b, 1, none⟩ = some v1 :=
  ⟨(hb.cell ha).trans h.1, (hb.cell ha).trans h.2.1, (hb.cell hb').trans h.2.2.1, (hb.cell hb').trans h.2.2.2⟩
theorem apply_len (b hi : Int) : ∀ (ds : List PD) (cur : List Int) (x : Int), hi = b + cur.length → b ≤ x → okP hi x ds = true → (apply b cur ds).length = cur.length
  | [], cur, x, _, _, _ => by simp [apply]
  | d :: ds, cur, x, hh, hx, h => by
    obtain ⟨h1, h2, h3, h4⟩ := okP_cons h
    have hs : (PPatch.splice cur (d.1 - b).toNat d.2).length = cur.length := splice_len (by omega)
    simp only [apply]
    rw [apply_len b hi ds _ _ (by rw [hs]; exact hh) (by omega) h4, hs]
theorem out_len (b : Int) (zs : List Int) (ds : List PD) : (outZ (imOk b zs.length ds) (apply b zs ds)).length ≤ zs.length := by
  cases hok : imOk b zs.length ds
  · simp [outZ]
  · have hP : okP (b + zs.length) b ds = true := by
      simp only [imOk, Bool.and_eq_true] at hok
      exact hok.2
    simp only [outZ, cond_true]
    rw [apply_len b _ ds zs b rfl (Int.le_refl _) hP]
    exact Nat.le_refl _
set_option maxHeartbeats 8000000 in
theorem walk (b : Int) (A : Option Addr) (zs : List Int) (c : Nat) (hl : zs.length ≤ c) (hc : c ≤ maxLen) (AL : Option Addr) (ps : List PV) (cl : Nat) (hll : ps.length ≤ cl) (hcl : cl ≤ maxLen) (w : World) (hz : ∀ p ∈ ps, In.okPatch w p) (hr : Rd w w.heap.size A (ints .u8 zs)) (hrl : Rd w w.heap.size AL (cellsOf patchC ps)) :
    Calls Try.prog 4 #[.agg #[.int .i64 b, .slice A zs.length c], .slice AL ps.length cl] w (LawEnds w) := by
  have hcm := Nat.le_trans hl hc
  have hcm2 := Nat.le_trans hll hcl
  have hzm : ∀ p ∈ ps, p.zs.length ≤ maxLen := fun p hp => Nat.le_trans (hz p hp).2.1 (hz p hp).2.2.1
  have hrp : RdPs w w.heap.size AL ps := ⟨hrl, fun p hp => (hz p hp).2.2.2.2⟩
  have HZ := hide (szImage_any b A zs.length c 1048576 (w.alloc (.cells #[.int .i64 b, .slice A zs.length c] 31)) (by decide) (by decide) hcm)
  by_cases hbig : 1048576 - (zs.length : Int) < 0
  · rw [show szI 1048576 zs.length = -1 by rw [szI, if_pos hbig]] at HZ
    go_enter Try.func4, Try.ntmps4
    go_wp2_with fail
    refine HZ.out.mono ?_
    rintro e w' ⟨rfl, hb⟩
    have HB := (show Below w.heap.size w (w.alloc (.cells #[.int .i64 b, .slice A zs.length c] 31)) from (by repeat (first | exact Below.refl _ _ | with_reducible assumption | (refine Below.drew ?_) | (refine Below.drewN ?_ _) | (refine Below.alloc ?_ (by simp; try omega) _) | (refine Below.setCell ?_ (by simp; try omega) _)))).trans (hb.mono (by simp))
    go_wp2_with fail
    go_ret
    exact ⟨rfl, HB⟩
  have hm1 : zs.length ≤ 1048576 := by omega
  rw [show szI 1048576 zs.length = ((1048576 - zs.length : Nat) : Int) by rw [szI, if_neg hbig]; omega] at HZ
  generalize hL : (1048576 - zs.length : Nat) = L at *
  have hLm : L ≤ 1048576 := by omega
  have HRP := hide hrp
  have HZM := hide hzm
  have hm1' : zs.length ≤ maxLen := hcm
  clear hL hbig hc hcl hl hll hz hrl hzm hrp hcm
  have HR := hide hr
  clear hr
  go_enter Try.func4, Try.ntmps4
  go_wp2_with fail
  have HB := hide (show Below w.heap.size w (w.alloc (.cells #[.int .i64 b, .slice A zs.length c] 31)) from (by repeat (first | exact Below.refl _ _ | with_reducible assumption | (refine Below.drew ?_) | (refine Below.drewN ?_ _) | (refine Below.alloc ?_ (by simp; try omega) _) | (refine Below.setCell ?_ (by simp; try omega) _))))
  have HX := hide (Box.new w 31 #[.int .i64 b, .slice A zs.length c])
  refine HZ.out.mono ?_
  clear HZ
  generalize (w.alloc (.cells #[.int .i64 b, .slice A zs.length c] 31)) = wa at *
  rintro e w0 ⟨rfl, b0⟩
  replace HB := hide (HB.out.trans (b0.mono HB.out.size))
  replace HX := hide (HX.out.call b0)
  clear b0
  have hL0 : ((L : Nat) : Int) ≤ 1048576 := by omega
  have hL1 : ¬ ((L : Nat) : Int) < 0 := by omega
  go_wp2_with fail
  refine (szPatchS_any AL ps cl L w0 (by omega) hL0 ((HRP.out.1.below HB.out).more HB.out.size) hcm2 HZM.out).mono ?_
  rintro e w00 ⟨⟨r, rfl, hr⟩, b00⟩
  replace HB := hide (HB.out.trans (b00.mono HB.out.size))
  replace HX := hide (HX.out.call b00)
  clear b00
  rcases hr with rfl | ⟨hr0, htot⟩
  · go_wp2_with fail
    go_ret
    exact ⟨rfl, HB.out⟩
  have hm2 : ps.length ≤ 1048576 := by have := tot_nonneg ps; omega
  have hm3 : ∀ p ∈ ps, p.zs.length ≤ 1048576 := fun p hp => by have := tot_mem ps p hp; have := tot_nonneg ps; omega
  have HM3 := hide hm3
  have HTOT := hide (show (ps.length : Int) + tot ps ≤ 1048576 by omega)
  generalize hds : ps.map PV.d = ds
  have HDS := hide hds
  clear hm3 htot hcm2 HZM
  have hr1 : ¬ r < 0 := by omega
  have hlq : ∀ qs : List PV, qs.map PV.d = ds → qs.length ≤ 1048576 ∧ (∀ q ∈ qs, q.zs.length ≤ 1048576) ∧ (qs.length : Int) + tot qs ≤ 1048576 := by
    intro qs hq
    have e1 : qs.map PV.d = ps.map PV.d := hq.trans HDS.out.symm
    have e2 : qs.length = ps.length := by simpa using congrArg List.length e1
    have e3 := tot_eq e1
    have h0 := HTOT.out
    exact ⟨by omega, fun q hq => by have := tot_mem qs q hq; have := tot_nonneg qs; omega, by omega⟩
  have HLQ := hide hlq
  clear hlq hds
  have q0 := HX.out.cell 0
  have q1 := HX.out.cell 1
  simp only [List.getElem?_toArray, List.getElem?_cons_zero, List.getElem?_cons_succ] at q0 q1
  go_wp2_with fail
  refine (toImage_any b A zs c _ ((HR.out.below HB.out).more HB.out.size) hm1).mono ?_
  rintro e w1 ⟨A1, c1, rfl, o1, b1⟩
  replace HB := hide (HB.out.trans (b1.mono HB.out.size))
  replace HX := hide (HX.out.call b1)
  have R1 := hide o1
  clear o1 b1 q0 q1
  go_wp2_with fail
  refine (toPatchS_any AL ps cl w1 ((HRP.out.below HB.out).more HB.out.size) hm2 HM3.out).mono ?_
  rw [HDS.out]
  rintro e w2 ⟨A2, c2, qs, rfl, hqd, o2, b2⟩
  replace HB := hide (HB.out.trans (b2.mono HB.out.size))
  replace HX := hide (HX.out.call b2)
  replace R1 := hide (R1.out.call b2)
  have R2 := hide o2
  have HQD := hide hqd
  clear o2 b2 hqd
  go_wp2_with fail
  refine (applyPatchesS_any b A1 zs c1 A2 qs c2 w2 R1.out.rd hm1 R1.out.nil R2.out.rd (HLQ.out qs HQD.out).1 (HLQ.out qs HQD.out).2.1 (fun q hq => (R2.out.2.1 q hq).nil)).mono ?_
  rw [HQD.out]
  clear R1 R2 HQD
  have HT := hide (out_len b zs ds)
  have HTT := hide (show ∀ (W : World) (A : Option Addr) (c : Nat) (AL : Option Addr) (qs : List PV) (cl : Nat), qs.map PV.d = ds → Rd W W.heap.size A (ints .u8 zs) → (A = none → c = 0) → RdPs W W.heap.size AL qs → Calls Try.prog 16 #[.agg #[.int .i64 b, .slice A zs.length c], .slice AL qs.length cl] W (RetImg (outB (imOk b zs.length ds) b) (outZ (imOk b zs.length ds) (apply b zs ds)) (imOk b zs.length ds) W) from fun W A c AL qs cl h1 h2 h3 h4 => by have h := applyPatches_any b A zs c AL qs cl W h2 hm1 h3 h4 (HLQ.out qs h1).1 (HLQ.out qs h1).2.1; rw [h1] at h; exact h)
  generalize imOk b zs.length ds = ok at *
  generalize outB ok b = n at *
  generalize outZ ok (apply b zs ds) = s at *
  have hT1 : s.length ≤ 1048576 := Nat.le_trans HT.out hm1
  have hT1' : s.length ≤ maxLen := by unfold maxLen; omega
  clear HT
  rintro e w3 ⟨A3, c3, rfl, R3, b3⟩
  replace HB := hide (HB.out.trans (b3.mono HB.out.size))
  replace HX := hide (HX.out.call b3)
  have RW := hide R3.rd
  clear R3 b3
  have q0 := HX.out.cell 0
  have q1 := HX.out.cell 1
  simp only [List.getElem?_toArray, List.getElem?_cons_zero, List.getElem?_cons_succ] at q0 q1
  have hx := HX.out.lt
  go_wp2_with fail
  have HW := hide (Box.new w3 35 #[.int .i64 n, .slice A3 s.length c3])
  have bx := below_al (o := .cells #[.int .i64 n, .slice A3 s.length c3] 35) (Below.refl w3.heap.size w3)
  replace HB := hide (HB.out.trans (bx.mono HB.out.size))
  replace HX := hide (HX.out.call bx)
  replace RW := hide ((RW.out.below bx).more bx.size)
  clear bx q0 q1 hx
  generalize hW : (w3.alloc (.cells #[.int .i64 n, .slice A3 s.length c3] 35)) = v at *
  clear hW
  have HD := hide (Below.refl v.heap.size v)
  have hXv := HX.out.lt
  have hWv := HW.out.lt
  have HRv := hide (And.intro ((HR.out.below HB.out).more HB.out.size) ((HRP.out.below HB.out).more HB.out.size))
  refine (toImage_any b A zs c v ((HRv.out.1.below HD.out).more HD.out.size) hm1).mono ?_

  rintro e w4 ⟨A4, c4, rfl, o4, b4⟩
  replace HD := hide (below_call HD.out b4)
  have RX := hide o4
  clear b4 o4
  go_wp2_with fail
  have HE := hide (Box.new w4 35 #[.int .i64 b, .slice A4 zs.length c4])
  have bx := below_al (o := .cells #[.int .i64 b, .slice A4 zs.length c4] 35) (Below.refl w4.heap.size w4)
  replace HD := hide (below_call HD.out bx)
  replace RX := hide (RX.out.call bx)
  clear bx
  generalize hW : (w4.alloc (.cells #[.int .i64 b, .slice A4 zs.length c4] 35)) = w5 at *
  clear hW
  have HLX := hide (show ∀ j, blk A4 c4 = some j → v.heap.size ≤ j ∧ j < w5.heap.size from fun j hj => RX.out.lt j hj)
  have hv5 := HD.out.size
  refine (toPatchS_any AL ps cl w5 ((HRv.out.2.below HD.out).more HD.out.size) hm2 HM3.out).mono ?_
  rw [HDS.out]
  rintro e w6 ⟨A6, c6, qs, rfl, hqd, o6, b6⟩
  replace HD := hide (below_call HD.out b6)
  replace RX := hide (RX.out.call b6)
  replace HE := hide (HE.out.call b6)
  have RB := hide o6
  have hs56 := b6.size
  have HLB := hide o6.lt
  have HQD := hide hqd
  clear b6 o6 hqd
  have q0 := HE.out.cell 0
  have q1 := HE.out.cell 1
  simp only [List.getElem?_toArray, List.getElem?_cons_zero, List.getElem?_cons_succ] at q0 q1
  have hE := HE.out.lt
  go_wp2_with fail
  refine (HTT.out w6 A4 c4 A6 qs c6 HQD.out RX.out.rd RX.out.nil RB.out.rd).mono ?_

  rintro e w7 ⟨A7, c7, rfl, R7, b7⟩
  replace HD := hide (below_call HD.out b7)
  replace RX := hide (RX.out.call b7)
  replace HE := hide (HE.out.call b7)
  replace RB := hide (RB.out.call b7)
  have RG := hide R7
  have hs67 := b7.size
  clear b7 R7 q0 q1 hE
  have HWc := hide (HW.out.below HD.out hWv)
  have g0 := HWc.out.cell 0
  have g1 := HWc.out.cell 1
  simp only [List.getElem?_toArray, List.getElem?_cons_zero, List.getElem?_cons_succ] at g0 g1
  have hg7 := HWc.out.lt
  go_wp2_with fail
  have HG := hide (Box.new w7 35 #[.int .i64 n, .slice A7 s.length c7])
  have bx := below_al (o := .cells #[.int .i64 n, .slice A7 s.length c7] 35) (Below.refl w7.heap.size w7)
  replace HD := hide (below_call HD.out bx)
  replace RX := hide (RX.out.call bx)
  replace HE := hide (HE.out.call bx)
  replace RB := hide (RB.out.call bx)
  replace RG := hide (RG.out.call bx)
  clear bx
  generalize hW : (w7.alloc (.cells #[.int .i64 n, .slice A7 s.length c7] 35)) = w8 at *
  clear hW
  refine (eqImage_same n A7 A3 s c7 c3 w8 RG.out.rd ((RW.out.below HD.out).more HD.out.size) hT1').mono ?_

  rintro e w9 ⟨rfl, b9⟩
  replace HD := hide (below_call HD.out b9)
  replace RX := hide (RX.out.call b9)
  replace HE := hide (HE.out.call b9)
  replace RB := hide (RB.out.call b9)
  replace RG := hide (RG.out.call b9)
  replace HG := hide (HG.out.call b9)

  clear b9
  clear g0 g1 hg7
  have hrr : (ok != ok) = false := by simp
  have y0 := HE.out.cell 0
  have y1 := HE.out.cell 1
  simp only [List.getElem?_toArray, List.getElem?_cons_zero, List.getElem?_cons_succ] at y0 y1
  have hy := HE.out.lt
  have HXc := hide (HX.out.below HD.out hXv)
  have q0 := HXc.out.cell 0
  have q1 := HXc.out.cell 1
  simp only [List.getElem?_toArray, List.getElem?_cons_zero, List.getElem?_cons_succ] at q0 q1
  have hx := HXc.out.lt
  go_wp2_with fail
  have Z4 : w9.cell? ⟨w4.heap.size, 0, none⟩ = some (.int .i64 b) ∧ w9.cell? ⟨w4.heap.size, 1, none⟩ = some (.slice A4 zs.length c4) ∧ w9.cell? ⟨w.heap.size, 0, none⟩ = some (.int .i64 b) ∧ w9.cell? ⟨w.heap.size, 1, none⟩ = some (.slice A zs.length c) := ⟨y0, y1, q0, q1⟩
  clear y0 y1 q0 q1
  go_region_held3 (fun (W : World) => W.cell? ⟨w4.heap.size, 0, none⟩ = some (.int .i64 b) ∧ W.cell? ⟨w4.heap.size, 1, none⟩ = some (.slice A4 zs.length c4) ∧ W.cell? ⟨w.heap.size, 0, none⟩ = some (.int .i64 b) ∧ W.cell? ⟨w.heap.size, 1, none⟩ = some (.slice A zs.length c)) (first | exact Z4 | exact Z5 | exact Z6) (first | (go_at_call 14; refine (toImage_any b A zs c _ (by exact ((HRv.out.1.below HD.out).more HD.out.size)) hm1).mono ?_; rintro e w10 ⟨A10, c10, rfl, o10, hb10⟩; have HR10 := hide o10.rd; have HB10 := hide (below_drawn hb10); have Z5 := four HB10.out hy hx Z4; clear o10 hb10) | (go_at_call 17; refine (eqImage_same b A4 A10 zs c4 c10 _ (by exact (RX.out.call HB10.out).rd) (by exact HR10.out) hm1').mono ?_; rintro e w11 ⟨rfl, hb11⟩; have HB11 := hide (below_drawn hb11); have Z6 := four HB11.out (Nat.lt_of_lt_of_le hy HB10.out.size) (Nat.lt_of_lt_of_le hx HB10.out.size) Z5; clear hb11))
  have b11 := HB10.out.trans (HB11.out.mono HB10.out.size)
  replace HD := hide (below_call HD.out b11)
  replace RX := hide (RX.out.call b11)
  replace HE := hide (HE.out.call b11)
  replace RB := hide (RB.out.call b11)
  replace RG := hide (RG.out.call b11)
  replace HG := hide (HG.out.call b11)
  clear b11 Z4 Z5 Z6 HB10 HB11 HR10 HXc HWc hy hx
  try simp only [List.getElem_toArray, List.getElem_cons_succ, List.getElem_cons_zero, Act.put, List.setIfInBounds_toArray, List.set_cons_zero, List.set_cons_succ]
  go_wp2_with fail
  refine (toPatchS_any AL ps cl w11 ((HRv.out.2.below HD.out).more HD.out.size) hm2 HM3.out).mono ?_
  rw [HDS.out]
  rintro e w12 ⟨A12, c12, qs12, rfl, hqd12, o12, b12⟩
  replace HD := hide (below_call HD.out b12)
  replace RX := hide (RX.out.call b12)
  replace HE := hide (HE.out.call b12)
  replace RB := hide (RB.out.call b12)
  replace RG := hide (RG.out.call b12)
  replace HG := hide (HG.out.call b12)
  have R12 := hide o12.rd
  have HQ12 := hide (HQD.out.trans hqd12.symm)
  clear b12 o12 hqd12
  go_wp2_with fail
  refine (eqPatchS_same A6 A12 qs qs12 c6 c12 w12 RB.out.rd R12.out HQ12.out (by have h := (HLQ.out qs HQD.out).1; unfold maxLen; omega) (fun q hq => by have h := (HLQ.out qs HQD.out).2.1 q hq; unfold maxLen; omega)).mono ?_
  rintro e w13 ⟨rfl, b13⟩
  clear R12 HQ12
  replace HD := hide (below_call HD.out b13)
  replace RX := hide (RX.out.call b13)
  replace HE := hide (HE.out.call b13)
  replace RB := hide (RB.out.call b13)
  replace RG := hide (RG.out.call b13)
  replace HG := hide (HG.out.call b13)
  clear b13
  have y0 := HE.out.cell 0
  have y1 := HE.out.cell 1
  simp only [List.getElem?_toArray, List.getElem?_cons_zero, List.getElem?_cons_succ] at y0 y1
  go_wp2_with fail
  refine (markImage_any b v.heap.size A4 c4 zs 1 w13 (by omega) (by omega) (by omega) RX.out).mono ?_
  rintro e w14 ⟨rfl, r14, g14⟩
  replace HG := hide (g14.box HG.out (fun hp => RX.out.box HG.out (by decide) _ hp rfl))
  replace HD := hide (Gp.below HD.out g14 HD.out.size (fun j hj => (HLX.out j hj).1))
  replace RB := hide (RB.out.keep fun j hj => g14.block j (RB.out.lt j hj).2 (fun hp => by have h1 := (RB.out.lt j hj).1; have h2 := (HLX.out j hp).2; omega))
  replace RG := hide (g14.row RG.out (fun j hj hp => by have h1 := (RG.out.lt j hj).1; have h2 := (HLX.out j hp).2; omega))
  clear r14 g14 RX HE y0 y1
  go_wp2_with fail
  refine (markPatchS_any w5.heap.size A6 c6 qs (1 + zs.length) w14 (by omega) (by have h := (HLQ.out qs HQD.out).2.2; omega) RB.out).mono ?_
  rintro e w15 ⟨⟨k15, rfl, hk15⟩, g15⟩
  replace HG := hide (g15.box HG.out (fun hp => by have h2 := (HLB.out _ hp).2; omega))
  replace HD := hide (Gp.below HD.out g15 HD.out.size (fun j hj => Nat.le_trans hv5 (HLB.out j hj).1))
  replace RG := hide (g15.row RG.out (fun j hj hp => by have h1 := (RG.out.lt j hj).1; have h2 := (HLB.out j hp).2; omega))
  have hk15' : ¬ k15 < 0 := by omega
  have hk15d : decide (k15 < 0) = false := decide_eq_false hk15'
  clear g15 RB
  have HWc := hide (HW.out.below HD.out hWv)
  have g0 := HWc.out.cell 0
  have g1 := HWc.out.cell 1
  simp only [List.getElem?_toArray, List.getElem?_cons_zero, List.getElem?_cons_succ] at g0 g1
  have y0 := HG.out.cell 0
  have y1 := HG.out.cell 1
  simp only [List.getElem?_toArray, List.getElem?_cons_zero, List.getElem?_cons_succ] at y0 y1
  go_wp2_with fail
  refine (eqImage_same n A7 A3 s c7 c3 w15 RG.out.rd ((RW.out.below HD.out).more HD.out.size) hT1').mono ?_

  rintro e w16 ⟨rfl, b16⟩
  replace HD := hide (below_call HD.out b16)
  replace RG := hide (RG.out.call b16)
  replace HG := hide (HG.out.call b16)

  clear b16
  clear g0 g1 y0 y1 HWc
  have y0 := HG.out.cell 0
  have y1 := HG.out.cell 1
  simp only [List.getElem?_toArray, List.getElem?_cons_zero, List.getElem?_cons_succ] at y0 y1
  have hs6 : v.heap.size ≤ w6.heap.size := Nat.le_trans hv5 hs56
  go_wp2_with fail
  refine (markImage_any n w6.heap.size A7 c7 s 1 w16 (by omega) (by omega) (by omega) RG.out).mono ?_
  rintro e w17 ⟨rfl, r17, g17⟩
  replace HG := hide (g17.box HG.out (fun hp => RG.out.box HG.out (by decide) _ hp rfl))
  replace HD := hide (Gp.below HD.out g17 HD.out.size (fun j hj => Nat.le_trans hs6 (RG.out.lt j hj).1))
  clear RG
  have RG := hide r17
  clear r17 g17 y0 y1
  have y0 := HG.out.cell 0
  have y1 := HG.out.cell 1
  simp only [List.getElem?_toArray, List.getElem?_cons_zero, List.getElem?_cons_succ] at y0 y1
  go_wp2_with fail
  refine (heldImage_any n w17.heap.size A7 c7 s.length 1 w17 (by omega) (by omega) (by omega) RG.out.rd (Nat.le_refl _)).mono ?_

  rintro e w18 ⟨rfl, b18⟩
  replace HD := hide (below_call HD.out b18)
  replace RG := hide (RG.out.call b18)
  replace HG := hide (HG.out.call b18)

  clear b18
  clear y0 y1
  have HXc := hide (HX.out.below HD.out hXv)
  have q0 := HXc.out.cell 0
  have q1 := HXc.out.cell 1
  simp only [List.getElem?_toArray, List.getElem?_cons_zero, List.getElem?_cons_succ] at q0 q1
  have hx := HXc.out.lt
  go_wp2_with fail
  refine (toImage_any b A zs c w18 ((HRv.out.1.below HD.out).more HD.out.size) hm1).mono ?_

  rintro e w19 ⟨A19, c19, rfl, o19, b19⟩
  replace HD := hide (below_call HD.out b19)
  replace RG := hide (RG.out.call b19)
  replace HG := hide (HG.out.call b19)
  have R19 := hide o19
  clear b19 o19 HXc q0 q1 hx
  go_wp2_with fail
  refine (toPatchS_any AL ps cl w19 ((HRv.out.2.below HD.out).more HD.out.size) hm2 HM3.out).mono ?_
  rw [HDS.out]
  rintro e w20 ⟨A20, c20, qs20, rfl, hqd20, o20, b20⟩
  replace HD := hide (below_call HD.out b20)
  replace RG := hide (RG.out.call b20)
  replace HG := hide (HG.out.call b20)
  replace R19 := hide (R19.out.call b20)
  have R20 := hide o20
  have HQ20 := hide hqd20
  clear b20 o20 hqd20
  go_wp2_with fail
  refine (HTT.out w20 A19 c19 A20 qs20 c20 HQ20.out R19.out.rd R19.out.nil R20.out.rd).mono ?_

  rintro e w21 ⟨A21, c21, rfl, R21, b21⟩
  replace HD := hide (below_call HD.out b21)
  replace RG := hide (RG.out.call b21)
  replace HG := hide (HG.out.call b21)
  have RH := hide R21
  clear b21 R21 R19 R20 HQ20
  have HWc := hide (HW.out.below HD.out hWv)
  have g0 := HWc.out.cell 0
  have g1 := HWc.out.cell 1
  simp only [List.getElem?_toArray, List.getElem?_cons_zero, List.getElem?_cons_succ] at g0 g1
  have hg7 := HWc.out.lt
  go_wp2_with fail
  have bx := below_al (o := .cells #[.int .i64 n, .slice A21 s.length c21] 35) (Below.refl w21.heap.size w21)
  replace HD := hide (below_call HD.out bx)
  replace RG := hide (RG.out.call bx)
  replace HG := hide (HG.out.call bx)
  replace RH := hide (RH.out.call bx)
  clear bx
  generalize hW : (w21.alloc (.cells #[.int .i64 n, .slice A21 s.length c21] 35)) = w22 at *
  clear hW
  refine (eqImage_same n A21 A3 s c21 c3 w22 RH.out.rd ((RW.out.below HD.out).more HD.out.size) hT1').mono ?_

  rintro e w23 ⟨rfl, b23⟩
  replace HD := hide (below_call HD.out b23)
  replace RG := hide (RG.out.call b23)
  replace HG := hide (HG.out.call b23)
  replace RH := hide (RH.out.call b23)

  clear b23
  clear g0 g1 hg7 HWc RH
  have y0 := HG.out.cell 0
  have y1 := HG.out.cell 1
  simp only [List.getElem?_toArray, List.getElem?_cons_zero, List.getElem?_cons_succ] at y0 y1
  go_wp2_with fail
  refine (heldImage_any n w23.heap.size A7 c7 s.length 1 w23 (by omega) (by omega) (by omega) RG.out.rd (Nat.le_refl _)).mono ?_

  rintro e w24 ⟨rfl, b24⟩
  replace HD := hide (below_call HD.out b24)

  clear b24
  go_wp2_with fail
  go_ret
  exact ⟨rfl, HB.out.trans (HD.out.mono HB.out.size)⟩
end Go.Proofs.Ytjnnjgogpapbhaa.WFnExactApplyPatches
