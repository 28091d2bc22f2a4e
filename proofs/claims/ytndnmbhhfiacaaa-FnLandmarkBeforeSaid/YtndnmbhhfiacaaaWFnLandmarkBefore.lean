/- The walk of FnLandmarkBefore: landmarks are before places. -/
import Derived.Test.YtndnmbhhfiacaaaDMarks
import Derived.Test.YtndnmbhhfiacaaaDCode
import Derived.Test.YtndnmbhhfiacaaaPMarks
import Derived.Test.YtndnmbhhfiacaaaCAlive
namespace Go.Proofs.Ytndnmbhhfiacaaa.WFnLandmarkBefore
set_option maxRecDepth 200000
open Go.ChangeShapes Go.WideShapes Go.ChangeAt Go.RowKit Kit CLandmarks CLandmarkBefore PMarks DPick DVar DName DMarks CAlive
theorem draw_any {A : Option Addr} {zs : List Int} {c : Nat} {w : World} (hr : Rd w w.heap.size A (ints .u8 zs)) (hz : InR 0 255 zs) (hc : zs.length ≤ c) (hcm : c ≤ maxLen) :
    Calls Try.prog 35 #[.slice A zs.length c] w (fun e w' => ∃ (A' : Option Addr) (ys : List CLandmarks.D) (c' : Nat) (a : Int), e = .returned (.tuple #[.slice A' ys.length c', .int .i64 a]) ∧ ys.length ≤ 4 ∧ (∀ z ∈ ys, SmallM z) ∧ -3 ≤ a ∧ a ≤ 100 ∧ w'.ownsRow w.heap.size 41 2 (.slice A' ys.length c') ys.length (cellsOf landmarkC ys) ∧ Below w.heap.size w w') := by
  have HO := hide (open_any A zs c w hr hz hc hcm)
  clear hr hz hc hcm
  go_enter Try.func35, Try.ntmps35
  go_wp2_with fail
  refine HO.out.mono ?_
  rintro e w1 ⟨R, rfl, T, b1⟩
  have T0 := Tp.start T
  have hRl := T.1
  have HB := hide b1
  clear T b1
  go_wp2_with fail
  refine (marks_any T0 (by omega) (by omega)).mono ?_
  rintro e w2 ⟨A', ys, c', rfl, y0, y1, o2, T2⟩
  have HO2 := hide o2
  have HY := hide y1
  have hR2 := T0.lt
  clear o2 HO T0 y1
  go_wp2_with fail
  refine (pick_tp (by first | with_reducible assumption | exact Tp.alloc (by with_reducible assumption) _ | exact Tp.alloc (Tp.alloc (by with_reducible assumption) _) _ | exact Tp.drewN (by with_reducible assumption) _ | exact Tp.drew (by with_reducible assumption) | exact Tp.drawn (by with_reducible assumption) | exact Tp.alloc (Tp.drewN (by with_reducible assumption) _) _ | exact Tp.alloc (Tp.drew (by with_reducible assumption)) _ | exact Tp.alloc (Tp.alloc (Tp.alloc (by with_reducible assumption) _) _) _) (by omega) _ (by omega) (by omega)).mono ?_
  rintro e w3 ⟨x, rfl, x0, x1, T3, g3⟩
  have HO3 := hide (own_pick HO2.out g3 hR2)
  have HT3 := hide T3
  clear T2 g3 T3
  go_wp2_with fail
  go_ret2
  exact ⟨A', ys, c', _, rfl, y0, HY.out, by omega, by omega, own_base HO3.out HB.out.size, HB.out.trans (HT3.out.below HB.out.size hRl)⟩
theorem walk (A : Option Addr) (zs : List Int) (c : Nat) (hl : zs.length ≤ c) (hc : c ≤ maxLen) (hz : InR 0 255 zs) (w : World) (hr : Rd w w.heap.size A (ints .u8 zs)) :
    Calls Try.prog 6 #[.slice A zs.length c] w (LawEnds w) := by
  have hcm := hc
  unfold maxLen at hcm
  have HD := hide (draw_any hr hz hl hc)
  clear hr hz hc
  by_cases hbig : 1048576 < zs.length
  · go_enter Try.func6, Try.ntmps6
    go_wp2_with fail
    go_ret
    exact ⟨rfl, Below.refl _ _⟩
  go_enter Try.func6, Try.ntmps6
  go_wp2_with fail
  refine HD.out.mono ?_
  rintro e w1 ⟨A1, ys, c1, a, rfl, l1, r1, a0, a1, o1, b1⟩
  have HB := hide b1
  have HO := hide o1
  have HY := hide r1
  clear b1 o1 r1
  have hym : ys.length ≤ maxLen := by unfold maxLen; omega
  go_wp2_with fail
  refine (landmarkBefore_any A1 ys c1 a w1 (Rd.of_own HO.out) hym).mono ?_
  rintro e w2 ⟨rfl, b2⟩
  have HO2 := hide (own_call b2 HO.out)
  have HB2 := hide (HB.out.trans (b2.mono HB.out.size))
  clear b2 HO HB
  have HM := hide (fun z hz h => best_most (zs := ys) (a := a) (z := z) hz h)
  have HL := hide (fun m h => best_le (zs := ys) (a := a) (m := m) h)
  cases hb : bestL ys a with
  | none =>
    have HS := hide (landmarkBeforeS_any A1 ys c1 a)
    rw [hb] at HS HM
    simp only [res] at HS ⊢
    clear hb HL
    go_wp2_with fail
    have X0 := Box.new w2 41 #[.string ⟨#[]⟩, .int .i64 0]
    have BA : Hid (Below w.heap.size w (w2.alloc (.cells #[.string ⟨#[]⟩, .int .i64 0] 41))) := hide (HB2.out.alloc HB2.out.size _)
    have HOA := hide (HO2.out.alloc (.cells #[.string ⟨#[]⟩, .int .i64 0] 41))
    clear HO2 HB2
    have HX0 := hide X0
    clear X0
    refine (HS.out _ (Rd.of_own HOA.out) hym).mono ?_
    rintro e w3 ⟨rfl, b3⟩
    have HO3 := hide (own_call b3 HOA.out)
    have HB3 := hide (BA.out.trans (b3.mono BA.out.size))
    have X3 := HX0.out.call b3
    have HX3 := hide X3
    have q0 := X3.cell 0
    have q1 := X3.cell 1
    simp only [List.getElem?_toArray, List.getElem?_cons_zero, List.getElem?_cons_succ] at q0 q1
    have hlt3 := X3.lt
    clear b3 HOA BA X3 HX0 HS
    go_wp2_with fail
    clear q0 q1
    have HO4 := hide (HO3.out.alloc (.cells #[.string ⟨#[]⟩, .int .i64 0] 41))
    have HB4 := hide (HB3.out.alloc HB3.out.size (.cells #[.string ⟨#[]⟩, .int .i64 0] 41))
    have HX4 := hide (HX3.out.alloc (.cells #[.string ⟨#[]⟩, .int .i64 0] 41))
    clear HO3 HB3 HX3
    go_loopw [9] (fun i wr => ∃ k : Nat, k ≤ ys.length ∧ i = .int .i64 k ∧ wr.ownsRow w.heap.size 41 2 (.slice A1 ys.length c1) ys.length (cellsOf landmarkC ys) ∧ Box wr w2.heap.size 41 #[.string ⟨#[]⟩, .int .i64 0] ∧ Below w.heap.size w wr) (fun i _ => ys.length - (intOf i).toNat)
    case atStart => exact ⟨0, Nat.zero_le _, rfl, HO4.out, HX4.out, HB4.out⟩
    case round =>
      obtain ⟨k, hk, rfl, ho, hx, hb⟩ := hrel
      have HO := hide ho
      have HX := hide hx
      have HB := hide hb
      have q0 := hx.cell 0
      have q1 := hx.cell 1
      simp only [List.getElem?_toArray, List.getElem?_cons_zero, List.getElem?_cons_succ] at q0 q1
      clear ho hx hb HO4 HX4 HB4
      by_cases hlt : k < ys.length
      · obtain ⟨b, off, hA, hbg, hc⟩ := (Rd.of_own HO.out).row landmarkC_len (by decide) hlt
        subst hA
        have p1 := hc 1 _ rfl
        have hM := HM.out _ (List.getElem_mem hlt)
        generalize ys[k] = z at *
        clear hc
        have hza : ¬ z.2 ≤ a := fun h => by
          obtain ⟨m, hm, _⟩ := hM h
          cases hm
        have hd : decide (z.2 ≤ a) = false := decide_eq_false hza
        clear hM hza
        go_wp2_with fail
        go_quiet (fail)
        go_wp2_with fail
        refine ⟨⟨k + 1, by omega, by go_num, own_drawn HO.out rfl, HX.out.drewN _, Kit.Below.drewN HB.out _⟩, by simp [intOf]; omega⟩
      · clear HO HX
        go_wp2_with fail
        refine (alive_any _).mono ?_
        rintro e w' ⟨rfl, rfl⟩
        go_wp2_with fail
        go_ret
        exact ⟨rfl, HB.out⟩
  | some m =>
    have HS := hide (landmarkBeforeS_any A1 ys c1 a)
    rw [hb] at HS HM
    have hma := HL.out m hb
    simp only [res] at HS ⊢
    clear hb HL
    go_wp2_with fail
    have X0 := Box.new w2 41 #[.string m.1, .int .i64 m.2]
    have BA : Hid (Below w.heap.size w (w2.alloc (.cells #[.string m.1, .int .i64 m.2] 41))) := hide (HB2.out.alloc HB2.out.size _)
    have HOA := hide (HO2.out.alloc (.cells #[.string m.1, .int .i64 m.2] 41))
    clear HO2 HB2
    have HX0 := hide X0
    clear X0
    refine (HS.out _ (Rd.of_own HOA.out) hym).mono ?_
    rintro e w3 ⟨rfl, b3⟩
    have HO3 := hide (own_call b3 HOA.out)
    have HB3 := hide (BA.out.trans (b3.mono BA.out.size))
    have X3 := HX0.out.call b3
    have HX3 := hide X3
    have q0 := X3.cell 0
    have q1 := X3.cell 1
    simp only [List.getElem?_toArray, List.getElem?_cons_zero, List.getElem?_cons_succ] at q0 q1
    have hlt3 := X3.lt
    clear b3 HOA BA X3 HX0 HS
    go_wp2_with fail
    clear q0 q1
    have HO4 := hide (HO3.out.alloc (.cells #[.string m.1, .int .i64 m.2] 41))
    have HB4 := hide (HB3.out.alloc HB3.out.size (.cells #[.string m.1, .int .i64 m.2] 41))
    have HX4 := hide (HX3.out.alloc (.cells #[.string m.1, .int .i64 m.2] 41))
    clear HO3 HB3 HX3
    go_loopw [9] (fun i wr => ∃ k : Nat, k ≤ ys.length ∧ i = .int .i64 k ∧ wr.ownsRow w.heap.size 41 2 (.slice A1 ys.length c1) ys.length (cellsOf landmarkC ys) ∧ Box wr w2.heap.size 41 #[.string m.1, .int .i64 m.2] ∧ Below w.heap.size w wr) (fun i _ => ys.length - (intOf i).toNat)
    case atStart => exact ⟨0, Nat.zero_le _, rfl, HO4.out, HX4.out, HB4.out⟩
    case round =>
      obtain ⟨k, hk, rfl, ho, hx, hb⟩ := hrel
      have HO := hide ho
      have HX := hide hx
      have HB := hide hb
      have q0 := hx.cell 0
      have q1 := hx.cell 1
      simp only [List.getElem?_toArray, List.getElem?_cons_zero, List.getElem?_cons_succ] at q0 q1
      clear ho hx hb HO4 HX4 HB4
      by_cases hlt : k < ys.length
      · obtain ⟨b, off, hA, hbg, hc⟩ := (Rd.of_own HO.out).row landmarkC_len (by decide) hlt
        subst hA
        have p1 := hc 1 _ rfl
        have hM := HM.out _ (List.getElem_mem hlt)
        generalize ys[k] = z at *
        clear hc
        by_cases hza : z.2 ≤ a
        · have hmz : z.2 ≤ m.2 := by
            obtain ⟨m', hm, h⟩ := hM hza
            injection hm with hm
            subst hm
            exact h
          have hd1 : decide (m.2 < z.2) = false := decide_eq_false (by omega)
          clear hM
          go_wp2_with fail
          go_quiet (fail)
          go_wp2_with fail
          refine ⟨⟨k + 1, by omega, by go_num, own_drawn HO.out rfl, HX.out.drewN _, Kit.Below.drewN HB.out _⟩, by simp [intOf]; omega⟩
        · have hd : decide (z.2 ≤ a) = false := decide_eq_false hza
          clear hM hza
          go_wp2_with fail
          go_quiet (fail)
          go_wp2_with fail
          refine ⟨⟨k + 1, by omega, by go_num, own_drawn HO.out rfl, HX.out.drewN _, Kit.Below.drewN HB.out _⟩, by simp [intOf]; omega⟩
      · clear HO HX
        go_wp2_with fail
        refine (alive_any _).mono ?_
        rintro e w' ⟨rfl, rfl⟩
        go_wp2_with fail
        go_ret
        exact ⟨rfl, HB.out⟩
end Go.Proofs.Ytndnmbhhfiacaaa.WFnLandmarkBefore
