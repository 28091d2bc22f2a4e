/- The walk of FnStepMachine: steps keep machines valid. -/
import Derived.Test.YtjnnjgogpapbhaaDStep
import Derived.Test.YtjnnjgogpapbhaaCStepI
import Derived.Test.YtjnnjgogpapbhaaCStepS
import Derived.Test.YtjnnjgogpapbhaaCSame
import Derived.Test.YtjnnjgogpapbhaaCAlive
namespace Go.Proofs.Ytjnnjgogpapbhaa.WFnStepMachine
set_option maxRecDepth 200000
open Go.ChangeShapes Go.WideShapes Go.ChangeAt Go.RowKit Kit CMachine CPutCode CDo CStepI CStepS PStep DStep CSame CAlive
theorem stepM_len (a : Int) (st ca zs : List Int) (hm : st.length ≤ 1048576) (hm' : ca.length ≤ 1048576) : (stepM a st ca zs).2.1.length ≤ 1048600 ∧ (stepM a st ca zs).2.2.1.length ≤ 1048600 := by
  unfold stepM
  split
  · unfold stepR
    split
    · exact ⟨by simpa using (by omega), by simpa using (by omega)⟩
    · split
      · exact ⟨by simpa using (by omega), by simpa using (by omega)⟩
      · split
        · rename_i n s c heq
          unfold doM at heq
          have key : s.length ≤ st.length + 1 ∧ c.length ≤ ca.length + 1 := by
            repeat' split at heq
            all_goals first
              | (cases heq; done)
              | (simp only [Option.some.injEq, Prod.mk.injEq] at heq
                 obtain ⟨_, rfl, rfl⟩ := heq
                 simp
                 try omega)
          exact ⟨by simpa using (by omega), by simpa using (by omega)⟩
        · exact ⟨by simpa using (by omega), by simpa using (by omega)⟩
  · exact ⟨by simp, by simp⟩
theorem stepM_ok {a : Int} {st ca zs : List Int} {n r : Int} {s k : List Int} (h : machOk a st ca = true) (hT : stepM a st ca zs = (n, s, k, r)) : machOk n s k = true ∧ (r = 0 ∨ n = a ∧ s = st ∧ k = ca) := by
  rw [← stepMS_eq, stepMS, if_pos h] at hT
  unfold stepS at hT
  split at hT
  · simp only [Prod.mk.injEq] at hT
    obtain ⟨rfl, rfl, rfl, rfl⟩ := hT
    exact ⟨h, .inr ⟨rfl, rfl, rfl⟩⟩
  · split at hT
    · simp only [Prod.mk.injEq] at hT
      obtain ⟨rfl, rfl, rfl, rfl⟩ := hT
      exact ⟨h, .inr ⟨rfl, rfl, rfl⟩⟩
    · split at hT
      · split at hT
        · rename_i hk
          simp only [Prod.mk.injEq] at hT
          obtain ⟨rfl, rfl, rfl, rfl⟩ := hT
          exact ⟨hk, .inl rfl⟩
        · simp only [Prod.mk.injEq] at hT
          obtain ⟨rfl, rfl, rfl, rfl⟩ := hT
          exact ⟨h, .inr ⟨rfl, rfl, rfl⟩⟩
      · simp only [Prod.mk.injEq] at hT
        obtain ⟨rfl, rfl, rfl, rfl⟩ := hT
        exact ⟨h, .inr ⟨rfl, rfl, rfl⟩⟩
theorem stepM_no {a : Int} {st ca zs : List Int} {n r : Int} {s k : List Int} (h : machOk a st ca = false) (hT : stepM a st ca zs = (n, s, k, r)) : n = 0 ∧ s = [] ∧ k = [] ∧ r = 2 := by
  unfold stepM at hT
  rw [h] at hT
  simp only [Bool.false_eq_true, if_false, Prod.mk.injEq] at hT
  obtain ⟨rfl, rfl, rfl, rfl⟩ := hT
  exact ⟨rfl, rfl, rfl, rfl⟩
theorem sameMachine_same (at_ : Int) (S S' C C' : Option Addr) (st ca : List Int) (cs cs' cc cc' : Nat) (w : World) (hs : Rd w w.heap.size S (ints .i64 st)) (hs' : Rd w w.heap.size S' (ints .i64 st)) (hc : Rd w w.heap.size C (ints .i64 ca)) (hc' : Rd w w.heap.size C' (ints .i64 ca)) (hn : st.length ≤ maxLen) (hm : ca.length ≤ maxLen) :
    Calls Try.prog 33 #[.agg #[.int .i64 at_, .slice S st.length cs, .slice C ca.length cc], .agg #[.int .i64 at_, .slice S' st.length cs', .slice C' ca.length cc']] w (Ret (.bool true) w) := by
  have B0 : Below w.heap.size w ((w.alloc (.cells #[.int .i64 at_, .slice S st.length cs, .slice C ca.length cc] 25)).alloc (.cells #[.int .i64 at_, .slice S' st.length cs', .slice C' ca.length cc'] 25)) := (by repeat (first | exact Below.refl _ _ | with_reducible assumption | (refine Below.drew ?_) | (refine Below.drewN ?_ _) | (refine Below.alloc ?_ (by simp; try omega) _) | (refine Below.setCell ?_ (by simp; try omega) _)))
  have h0 : (at_ == at_) = true := by simp
  go_enter Try.func33, Try.ntmps33
  go_wp2_with fail
  refine (sameInts_any S S' st st cs cs' _ _ ((hs.below B0).more B0.size) ((hs'.below B0).more B0.size) hn hn).mono ?_
  rintro e w1 ⟨rfl, n1, rfl⟩
  simp only [beq_self_eq_true]
  go_wp2_with fail
  refine (sameInts_any C C' ca ca cc cc' _ _ ((hc.below (Kit.Below.drewN B0 n1)).more (Kit.Below.drewN B0 n1).size) ((hc'.below (Kit.Below.drewN B0 n1)).more (Kit.Below.drewN B0 n1).size) hm hm).mono ?_
  rintro e w1 ⟨rfl, n2, rfl⟩
  simp only [beq_self_eq_true]
  go_wp2_with fail
  go_ret
  exact ⟨rfl, Kit.Below.drewN B0 _⟩
set_option maxHeartbeats 8000000 in
theorem walk (A : Option Addr) (zs : List Int) (c : Nat) (hl : zs.length ≤ c) (hc : c ≤ maxLen) (hz : InR 0 255 zs) (w : World) (hr : Rd w w.heap.size A (ints .u8 zs)) :
    Calls Try.prog 6 #[.slice A zs.length c] w (LawEnds w) := by
  have hcm := hc
  unfold maxLen at hcm
  have HD := hide (draw_any hr hz hl hc)
  clear hr hz hc
  by_cases hbig : 1048576 < zs.length
  · go_enter Try.func6, Try.ntmps6
    go_wp2_with fail
    go_ret
    exact ⟨rfl, Below.refl _ _⟩
  go_enter Try.func6, Try.ntmps6
  go_wp2_with fail
  refine HD.out.mono ?_
  rintro e w1 ⟨a, S, C, A1, st, ca, ps, cs, cc, c1, rfl, l0, l1, l2, hz, r0, r1, r2, n0, n1, b1⟩
  have m0 : st.length ≤ 1048576 := by omega
  have m1 : ca.length ≤ 1048576 := by omega
  have m2 : ps.length ≤ 1048576 := by omega
  have m0' : st.length ≤ maxLen := by unfold maxLen; omega
  have m1' : ca.length ≤ maxLen := by unfold maxLen; omega
  have bx := below_al (o := .cells #[.int .i64 a, .slice S st.length cs, .slice C ca.length cc] 25) (Below.refl w1.heap.size w1)
  have HX := hide (Box.new w1 25 #[.int .i64 a, .slice S st.length cs, .slice C ca.length cc])
  have HB := hide (b1.trans (bx.mono b1.size))
  have HR := hide (And.intro (r0.below bx) (And.intro (r1.below bx) (r2.below bx)))
  have hs := bx.size
  have HI := hide (fun (W : World) h0 h1 h2 => stepMachine_any a S C A1 st ca ps cs cc c1 W h0 h1 h2 hz m0 m1 m2 n0 n1)
  have HS := hide (fun (W : World) h0 h1 h2 => stepMachineS_any a S C A1 st ca ps cs cc c1 W h0 h1 h2 hz m0 m1 m2 n0 n1)
  have HV := hide (fun (W : World) h0 h1 => machineValid_any a S C st ca cs cc 0 0 W h0 h1 m0' m1')
  have HZ := hide hz
  clear b1 r0 r1 r2 bx HD n0 n1 hz
  go_wp2_with fail
  generalize hW : (w1.alloc (.cells #[.int .i64 a, .slice S st.length cs, .slice C ca.length cc] 25)) = w2 at *
  clear hW
  refine (HI.out w2 (HR.out.1.more hs) (HR.out.2.1.more hs) (HR.out.2.2.more hs)).mono ?_
  clear HI
  generalize hT : stepM a st ca ps = T at *
  obtain ⟨n, s, k, r⟩ := T
  have HT := hide hT
  clear hT
  have hlen : s.length ≤ 1048600 ∧ k.length ≤ 1048600 := by have := stepM_len a st ca ps m0 m1; rw [HT.out] at this; exact this
  have hk0 : s.length ≤ maxLen := by unfold maxLen; omega
  have hk1 : k.length ≤ maxLen := by unfold maxLen; omega
  rintro e w3 ⟨S3, C3, cs3, cc3, rfl, R3, b3⟩
  have RX := hide R3
  replace HX := hide (HX.out.call b3)
  replace HB := hide (HB.out.trans (b3.mono HB.out.size))
  replace HR := hide (And.intro ((HR.out.1.more hs).below b3) (And.intro ((HR.out.2.1.more hs).below b3) ((HR.out.2.2.more hs).below b3)))
  have hs3 := b3.size
  clear R3 b3
  have q0 := HX.out.cell 0
  have q1 := HX.out.cell 1
  have q2 := HX.out.cell 2
  simp only [List.getElem?_toArray, List.getElem?_cons_zero, List.getElem?_cons_succ] at q0 q1 q2
  have hx := HX.out.lt
  go_wp2_with fail
  have HE := hide (Box.new w3 25 #[.int .i64 n, .slice S3 s.length cs3, .slice C3 k.length cc3])
  have bx := below_al (o := .cells #[.int .i64 n, .slice S3 s.length cs3, .slice C3 k.length cc3] 25) (Below.refl w3.heap.size w3)
  replace RX := hide (Rows2.call RX.out bx)
  replace HX := hide (HX.out.call bx)
  replace HB := hide (HB.out.trans (bx.mono HB.out.size))
  replace HR := hide (And.intro ((HR.out.1.more hs3).below bx) (And.intro ((HR.out.2.1.more hs3).below bx) ((HR.out.2.2.more hs3).below bx)))
  have hs4 := bx.size
  clear bx q0 q1 q2 hx
  generalize hW : (w3.alloc (.cells #[.int .i64 n, .slice S3 s.length cs3, .slice C3 k.length cc3] 25)) = w4 at *
  clear hW
  refine (HS.out w4 (HR.out.1.more hs4) (HR.out.2.1.more hs4) (HR.out.2.2.more hs4)).mono ?_
  clear HS
  rintro e w5 ⟨S5, C5, cs5, cc5, rfl, R5, b5⟩
  have RY := hide R5
  replace RX := hide (Rows2.call RX.out b5)
  replace HX := hide (HX.out.call b5)
  replace HE := hide (HE.out.call b5)
  replace HB := hide (HB.out.trans (b5.mono HB.out.size))
  replace HR := hide (And.intro ((HR.out.1.more hs4).below b5) (And.intro ((HR.out.2.1.more hs4).below b5) ((HR.out.2.2.more hs4).below b5)))
  have hs5 := b5.size
  clear R5 b5
  have y0 := HE.out.cell 0
  have y1 := HE.out.cell 1
  have y2 := HE.out.cell 2
  simp only [List.getElem?_toArray, List.getElem?_cons_zero, List.getElem?_cons_succ] at y0 y1 y2
  have hy := HE.out.lt
  go_wp2_with fail
  have bx := below_al (o := .cells #[.int .i64 n, .slice S5 s.length cs5, .slice C5 k.length cc5] 25) (Below.refl w5.heap.size w5)
  replace RX := hide (Rows2.call RX.out bx)
  replace RY := hide (Rows2.call RY.out bx)
  replace HX := hide (HX.out.call bx)
  replace HE := hide (HE.out.call bx)
  replace HB := hide (HB.out.trans (bx.mono HB.out.size))
  replace HR := hide (And.intro ((HR.out.1.more hs5).below bx) (And.intro ((HR.out.2.1.more hs5).below bx) ((HR.out.2.2.more hs5).below bx)))
  have hs6 := bx.size
  clear bx y0 y1 y2 hy
  generalize hW : (w5.alloc (.cells #[.int .i64 n, .slice S5 s.length cs5, .slice C5 k.length cc5] 25)) = w6 at *
  clear hW
  refine (sameMachine_same n S3 S5 C3 C5 s k cs3 cs5 cc3 cc5 w6 RX.out.1.rd RY.out.1.rd RX.out.2.1.rd RY.out.2.1.rd hk0 hk1).mono ?_
  rintro e w7 ⟨rfl, b7⟩
  replace RX := hide (Rows2.call RX.out b7)
  replace HX := hide (HX.out.call b7)
  replace HE := hide (HE.out.call b7)
  replace HB := hide (HB.out.trans (b7.mono HB.out.size))
  replace HR := hide (And.intro ((HR.out.1.more hs6).below b7) (And.intro ((HR.out.2.1.more hs6).below b7) ((HR.out.2.2.more hs6).below b7)))
  have hs7 := b7.size
  have hrr : (r != r) = false := by simp
  clear b7 RY
  have q0 := HX.out.cell 0
  have q1 := HX.out.cell 1
  have q2 := HX.out.cell 2
  simp only [List.getElem?_toArray, List.getElem?_cons_zero, List.getElem?_cons_succ] at q0 q1 q2
  go_wp2_with fail
  refine (HV.out w7 (HR.out.1.more hs7) (HR.out.2.1.more hs7)).mono ?_
  rintro e w8 ⟨rfl, b8⟩
  replace RX := hide (Rows2.call RX.out b8)
  replace HX := hide (HX.out.call b8)
  replace HE := hide (HE.out.call b8)
  replace HB := hide (HB.out.trans (b8.mono HB.out.size))
  replace HR := hide (And.intro ((HR.out.1.more hs7).below b8) (And.intro ((HR.out.2.1.more hs7).below b8) ((HR.out.2.2.more hs7).below b8)))
  have hs8 := b8.size
  clear b8 q0 q1 q2
  have HO := hide (fun h => stepM_ok (a := a) (st := st) (ca := ca) h HT.out)
  have HN := hide (fun h => stepM_no (a := a) (st := st) (ca := ca) h HT.out)
  generalize machOk a st ca = ok at *
  have y0 := HE.out.cell 0
  have y1 := HE.out.cell 1
  have y2 := HE.out.cell 2
  simp only [List.getElem?_toArray, List.getElem?_cons_zero, List.getElem?_cons_succ] at y0 y1 y2
  cases ok
  · obtain ⟨rfl, rfl, rfl, rfl⟩ := HN.out rfl
    go_wp2_with fail
    refine (alive_any _).mono ?_
    rintro e w' ⟨rfl, rfl⟩
    go_wp2_with fail
    go_ret
    exact ⟨rfl, HB.out⟩
  · obtain ⟨hok, hcase⟩ := HO.out rfl
    have hbd := machOk_bd hok
    have HK := hide hok
    have HCC := hide hcase
    have HT2 := hide (fun (W : World) h0 h1 h2 h3 h4 => stepMachine_any n S3 C3 A1 s k ps cs3 cc3 c1 W h0 h1 h2 HZ.out (by omega) (by omega) m2 h3 h4)
    clear hok hcase hbd
    go_wp2_with fail
    refine (HT2.out w8 RX.out.1.rd RX.out.2.1.rd (HR.out.2.2.more hs8) RX.out.1.nil RX.out.2.1.nil).mono ?_
    generalize hT2 : stepM n s k ps = T2 at *
    obtain ⟨n2, s2, k2, r2⟩ := T2
    have HTT := hide hT2
    clear hT2 HT2
    rintro e w9 ⟨S9, C9, cs9, cc9, rfl, R9, b9⟩
    have RZ := hide R9
    replace RX := hide (Rows2.call RX.out b9)
    replace HX := hide (HX.out.call b9)
    replace HE := hide (HE.out.call b9)
    replace HB := hide (HB.out.trans (b9.mono HB.out.size))
    replace HR := hide (And.intro ((HR.out.1.more hs8).below b9) (And.intro ((HR.out.2.1.more hs8).below b9) ((HR.out.2.2.more hs8).below b9)))
    have hs9 := b9.size
    clear R9 b9 y0 y1 y2
    have y0 := HE.out.cell 0
    have y1 := HE.out.cell 1
    have y2 := HE.out.cell 2
    simp only [List.getElem?_toArray, List.getElem?_cons_zero, List.getElem?_cons_succ] at y0 y1 y2
    have hy := HE.out.lt
    go_wp2_with fail
    have HG := hide (Box.new w9 25 #[.int .i64 n2, .slice S9 s2.length cs9, .slice C9 k2.length cc9])
    have bx := below_al (o := .cells #[.int .i64 n2, .slice S9 s2.length cs9, .slice C9 k2.length cc9] 25) (Below.refl w9.heap.size w9)
    replace RX := hide (Rows2.call RX.out bx)
    replace RZ := hide (Rows2.call RZ.out bx)
    replace HX := hide (HX.out.call bx)
    replace HE := hide (HE.out.call bx)
    replace HB := hide (HB.out.trans (bx.mono HB.out.size))
    replace HR := hide (And.intro ((HR.out.1.more hs9).below bx) (And.intro ((HR.out.2.1.more hs9).below bx) ((HR.out.2.2.more hs9).below bx)))
    have hs10 := bx.size
    clear bx y0 y1 y2 hy
    generalize hW : (w9.alloc (.cells #[.int .i64 n2, .slice S9 s2.length cs9, .slice C9 k2.length cc9] 25)) = w10 at *
    clear hW
    refine (machineValid_any n S3 C3 s k cs3 cc3 0 0 w10 RX.out.1.rd RX.out.2.1.rd hk0 hk1).mono ?_
    rw [HK.out]
    rintro e w11 ⟨rfl, b11⟩
    replace RX := hide (Rows2.call RX.out b11)
    replace RZ := hide (Rows2.call RZ.out b11)
    replace HX := hide (HX.out.call b11)
    replace HE := hide (HE.out.call b11)
    replace HG := hide (HG.out.call b11)
    replace HB := hide (HB.out.trans (b11.mono HB.out.size))
    replace HR := hide (And.intro ((HR.out.1.more hs10).below b11) (And.intro ((HR.out.2.1.more hs10).below b11) ((HR.out.2.2.more hs10).below b11)))
    have hs11 := b11.size
    clear b11
    by_cases hr0 : r = 0
    · subst hr0
      go_wp2_with fail
      go_ret
      exact ⟨rfl, HB.out⟩
    · obtain ⟨rfl, rfl, rfl⟩ := HCC.out.resolve_left hr0
      have hTT := HT.out.symm.trans HTT.out
      simp only [Prod.mk.injEq] at hTT
      obtain ⟨rfl, rfl, rfl, rfl⟩ := hTT
      have hr1 : (r == 0) = false := by simpa using hr0
      have hr2 : (r == r) = true := by simp
      clear hr0
      have y0 := HE.out.cell 0
      have y1 := HE.out.cell 1
      have y2 := HE.out.cell 2
      simp only [List.getElem?_toArray, List.getElem?_cons_zero, List.getElem?_cons_succ] at y0 y1 y2
      have q0 := HX.out.cell 0
      have q1 := HX.out.cell 1
      have q2 := HX.out.cell 2
      simp only [List.getElem?_toArray, List.getElem?_cons_zero, List.getElem?_cons_succ] at q0 q1 q2
      go_wp2_with fail
      refine (sameMachine_same n S3 S C3 C s k cs3 cs cc3 cc w11 RX.out.1.rd (HR.out.1.more hs11) RX.out.2.1.rd (HR.out.2.1.more hs11) hk0 hk1).mono ?_
      rintro e w12 ⟨rfl, b12⟩
      replace RX := hide (Rows2.call RX.out b12)
      replace RZ := hide (Rows2.call RZ.out b12)
      replace HE := hide (HE.out.call b12)
      replace HG := hide (HG.out.call b12)
      replace HB := hide (HB.out.trans (b12.mono HB.out.size))
      clear b12 y0 y1 y2 q0 q1 q2
      have y0 := HE.out.cell 0
      have y1 := HE.out.cell 1
      have y2 := HE.out.cell 2
      simp only [List.getElem?_toArray, List.getElem?_cons_zero, List.getElem?_cons_succ] at y0 y1 y2
      have q0 := HG.out.cell 0
      have q1 := HG.out.cell 1
      have q2 := HG.out.cell 2
      simp only [List.getElem?_toArray, List.getElem?_cons_zero, List.getElem?_cons_succ] at q0 q1 q2
      go_wp2_with fail
      refine (sameMachine_same n S9 S3 C9 C3 s k cs9 cs3 cc9 cc3 w12 RZ.out.1.rd RX.out.1.rd RZ.out.2.1.rd RX.out.2.1.rd hk0 hk1).mono ?_
      rintro e w13 ⟨rfl, b13⟩
      replace HB := hide (HB.out.trans (b13.mono HB.out.size))
      clear b13
      go_wp2_with fail
      go_ret
      exact ⟨rfl, HB.out⟩
end Go.Proofs.Ytjnnjgogpapbhaa.WFnStepMachine
