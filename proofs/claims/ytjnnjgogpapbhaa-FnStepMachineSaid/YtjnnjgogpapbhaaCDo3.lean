/- Contracts of one instruction of a machine: jumps, calls and returns. -/
import Derived.Test.YtjnnjgogpapbhaaCDo
namespace Go.Proofs.Ytjnnjgogpapbhaa.CDo3
set_option maxRecDepth 200000
open Go.ChangeShapes Go.WideShapes Go.ChangeAt Go.RowKit Kit CCode CMachine CMachines CInts CPutCode CStep CDo
set_option maxHeartbeats 2000000 in
theorem do_zero_no (w : World) (base X : Nat) (n a : Int) (S C : Option Addr) (cs cc : Nat) (st ca : List Int) (h : MM w base X n S cs st C cc ca) (l1 : st.length ≤ 8) (l2 : ca.length ≤ 8) (hbw : base ≤ w.heap.size) (hl : ¬ 1 ≤ st.length) :
    Calls Try.prog 58 #[.pointer (some ⟨X, 0, none⟩), .agg #[.int .i64 5, .int .i64 a]] w (DoPost w base X (doM n st ca 5 a)) := by
  obtain ⟨i0, hi, hz0, hz1, hz2⟩ := info_parts info64
  have b0 : Below w.heap.size w (w.alloc (.cells #[.int .i64 5, .int .i64 a] 78)) := (by repeat (first | exact Below.refl _ _ | with_reducible assumption | (refine Below.drew ?_) | (refine Below.drewN ?_ _) | (refine Below.alloc ?_ (by simp; try omega) _) | (refine Below.setCell ?_ (by simp; try omega) _)))
  have h0 := h.call b0
  have HX := Box.new w 78 #[.int .i64 5, .int .i64 a]
  have hd : (st.length : Int) - 1 < 0 := by omega
  go_enter Try.func58, Try.ntmps58
  go_wp2_with fail
  have HB := hide (show Below base w (w.alloc (.cells #[.int .i64 5, .int .i64 a] 78)) from b0.mono hbw)
  clear b0 h
  obtain ⟨m0, m1, m2, f0, f1, f2⟩ := h0.cells
  go_quiet (fail)
  have h1 := h0.call (w' := (w.alloc (.cells #[.int .i64 5, .int .i64 a] 78)).drewN nq) (Kit.Below.drewN (Below.refl _ _) nq)
  have HX := HX.drewN nq
  have HB := hide (Kit.Below.drewN HB.out nq)
  have hsz : base ≤ ((w.alloc (.cells #[.int .i64 5, .int .i64 a] 78)).drewN nq).heap.size := Nat.le_trans hbw HB.out.size
  clear m0 m1 m2 f0 f1 f2 h0
  generalize ((w.alloc (.cells #[.int .i64 5, .int .i64 a] 78)).drewN nq) = w1 at *
  obtain ⟨m0, m1, m2, f0, f1, f2⟩ := h1.cells
  have x0 := HX.cell 0
  have x1 := HX.cell 1
  simp only [List.getElem?_toArray, List.getElem?_cons_zero, List.getElem?_cons_succ] at x0 x1
  have HM := hide h1
  have hX1 := h1.1.lt
  have hX2 := HX.lt
  have HXX := hide HX
  clear h1 HX
  go_wp2_with fail
  go_ret
  have E : doM n st ca 5 a = none := by rw [doM]; simp [hl]
  rw [E]
  exact ⟨rfl, HB.out, fun _ _ _ hr => by cases hr⟩
set_option maxHeartbeats 2000000 in
theorem do_return_no (w : World) (base X : Nat) (n a : Int) (S C : Option Addr) (cs cc : Nat) (st ca : List Int) (h : MM w base X n S cs st C cc ca) (l1 : st.length ≤ 8) (l2 : ca.length ≤ 8) (hbw : base ≤ w.heap.size) (hl : ¬ 1 ≤ ca.length) :
    Calls Try.prog 58 #[.pointer (some ⟨X, 0, none⟩), .agg #[.int .i64 7, .int .i64 a]] w (DoPost w base X (doM n st ca 7 a)) := by
  obtain ⟨i0, hi, hz0, hz1, hz2⟩ := info_parts info64
  have b0 : Below w.heap.size w (w.alloc (.cells #[.int .i64 7, .int .i64 a] 78)) := (by repeat (first | exact Below.refl _ _ | with_reducible assumption | (refine Below.drew ?_) | (refine Below.drewN ?_ _) | (refine Below.alloc ?_ (by simp; try omega) _) | (refine Below.setCell ?_ (by simp; try omega) _)))
  have h0 := h.call b0
  have HX := Box.new w 78 #[.int .i64 7, .int .i64 a]
  have hd : (ca.length : Int) - 1 < 0 := by omega
  go_enter Try.func58, Try.ntmps58
  go_wp2_with fail
  have HB := hide (show Below base w (w.alloc (.cells #[.int .i64 7, .int .i64 a] 78)) from b0.mono hbw)
  clear b0 h
  obtain ⟨m0, m1, m2, f0, f1, f2⟩ := h0.cells
  go_quiet (fail)
  have h1 := h0.call (w' := (w.alloc (.cells #[.int .i64 7, .int .i64 a] 78)).drewN nq) (Kit.Below.drewN (Below.refl _ _) nq)
  have HX := HX.drewN nq
  have HB := hide (Kit.Below.drewN HB.out nq)
  have hsz : base ≤ ((w.alloc (.cells #[.int .i64 7, .int .i64 a] 78)).drewN nq).heap.size := Nat.le_trans hbw HB.out.size
  clear m0 m1 m2 f0 f1 f2 h0
  generalize ((w.alloc (.cells #[.int .i64 7, .int .i64 a] 78)).drewN nq) = w1 at *
  obtain ⟨m0, m1, m2, f0, f1, f2⟩ := h1.cells
  have x0 := HX.cell 0
  have x1 := HX.cell 1
  simp only [List.getElem?_toArray, List.getElem?_cons_zero, List.getElem?_cons_succ] at x0 x1
  have HM := hide h1
  have hX1 := h1.1.lt
  have hX2 := HX.lt
  have HXX := hide HX
  clear h1 HX
  go_wp2_with fail
  go_ret
  have E : doM n st ca 7 a = none := by rw [doM]; simp [hl]
  rw [E]
  exact ⟨rfl, HB.out, fun _ _ _ hr => by cases hr⟩
set_option maxHeartbeats 2000000 in
theorem do_jump (w : World) (base X : Nat) (n a : Int) (S C : Option Addr) (cs cc : Nat) (st ca : List Int) (h : MM w base X n S cs st C cc ca) (l1 : st.length ≤ 8) (l2 : ca.length ≤ 8) (hbw : base ≤ w.heap.size) :
    Calls Try.prog 58 #[.pointer (some ⟨X, 0, none⟩), .agg #[.int .i64 4, .int .i64 a]] w (DoPost w base X (doM n st ca 4 a)) := by
  obtain ⟨i0, hi, hz0, hz1, hz2⟩ := info_parts info64
  have b0 : Below w.heap.size w (w.alloc (.cells #[.int .i64 4, .int .i64 a] 78)) := (by repeat (first | exact Below.refl _ _ | with_reducible assumption | (refine Below.drew ?_) | (refine Below.drewN ?_ _) | (refine Below.alloc ?_ (by simp; try omega) _) | (refine Below.setCell ?_ (by simp; try omega) _)))
  have h0 := h.call b0
  have HX := Box.new w 78 #[.int .i64 4, .int .i64 a]
  go_enter Try.func58, Try.ntmps58
  go_wp2_with fail
  have HB := hide (show Below base w (w.alloc (.cells #[.int .i64 4, .int .i64 a] 78)) from b0.mono hbw)
  clear b0 h
  obtain ⟨m0, m1, m2, f0, f1, f2⟩ := h0.cells
  go_quiet (fail)
  have h1 := h0.call (w' := (w.alloc (.cells #[.int .i64 4, .int .i64 a] 78)).drewN nq) (Kit.Below.drewN (Below.refl _ _) nq)
  have HX := HX.drewN nq
  have HB := hide (Kit.Below.drewN HB.out nq)
  have hsz : base ≤ ((w.alloc (.cells #[.int .i64 4, .int .i64 a] 78)).drewN nq).heap.size := Nat.le_trans hbw HB.out.size
  clear m0 m1 m2 f0 f1 f2 h0
  generalize ((w.alloc (.cells #[.int .i64 4, .int .i64 a] 78)).drewN nq) = w1 at *
  obtain ⟨m0, m1, m2, f0, f1, f2⟩ := h1.cells
  have x0 := HX.cell 0
  have x1 := HX.cell 1
  simp only [List.getElem?_toArray, List.getElem?_cons_zero, List.getElem?_cons_succ] at x0 x1
  have HM := hide h1
  have hX1 := h1.1.lt
  have hX2 := HX.lt
  have HXX := hide HX
  clear h1 HX
  have HM3 := hide (HM.out.at_ a)
  have HB3 := hide (HB.out.setCell (p := ⟨X, 0, none⟩) HM.out.2.2 (.int .i64 a))
  go_wp2_with fail
  go_ret
  refine ⟨rfl, HB3.out, fun n' st' ca' hr => ?_⟩
  simp only [show doM n st ca 4 a = some (a, st, ca) from rfl, Option.some.injEq, Prod.mk.injEq] at hr
  obtain ⟨rfl, rfl, rfl⟩ := hr
  exact ⟨_, _, _, _, HM3.out⟩
set_option maxHeartbeats 2000000 in
theorem do_zero (w : World) (base X : Nat) (n a : Int) (S C : Option Addr) (cs cc : Nat) (st ca : List Int) (h : MM w base X n S cs st C cc ca) (l1 : st.length ≤ 8) (l2 : ca.length ≤ 8) (hbw : base ≤ w.heap.size) (hl : 1 ≤ st.length) :
    Calls Try.prog 58 #[.pointer (some ⟨X, 0, none⟩), .agg #[.int .i64 5, .int .i64 a]] w (DoPost w base X (doM n st ca 5 a)) := by
  obtain ⟨i0, hi, hz0, hz1, hz2⟩ := info_parts info64
  have b0 : Below w.heap.size w (w.alloc (.cells #[.int .i64 5, .int .i64 a] 78)) := (by repeat (first | exact Below.refl _ _ | with_reducible assumption | (refine Below.drew ?_) | (refine Below.drewN ?_ _) | (refine Below.alloc ?_ (by simp; try omega) _) | (refine Below.setCell ?_ (by simp; try omega) _)))
  have h0 := h.call b0
  have HX := Box.new w 78 #[.int .i64 5, .int .i64 a]
  have hd : decide ((st.length : Int) - 1 < 0) = false := by simp; omega
  go_enter Try.func58, Try.ntmps58
  go_wp2_with fail
  have HB := hide (show Below base w (w.alloc (.cells #[.int .i64 5, .int .i64 a] 78)) from b0.mono hbw)
  clear b0 h
  obtain ⟨m0, m1, m2, f0, f1, f2⟩ := h0.cells
  go_quiet (fail)
  have h1 := h0.call (w' := (w.alloc (.cells #[.int .i64 5, .int .i64 a] 78)).drewN nq) (Kit.Below.drewN (Below.refl _ _) nq)
  have HX := HX.drewN nq
  have HB := hide (Kit.Below.drewN HB.out nq)
  have hsz : base ≤ ((w.alloc (.cells #[.int .i64 5, .int .i64 a] 78)).drewN nq).heap.size := Nat.le_trans hbw HB.out.size
  clear m0 m1 m2 f0 f1 f2 h0
  generalize ((w.alloc (.cells #[.int .i64 5, .int .i64 a] 78)).drewN nq) = w1 at *
  obtain ⟨m0, m1, m2, f0, f1, f2⟩ := h1.cells
  have x0 := HX.cell 0
  have x1 := HX.cell 1
  simp only [List.getElem?_toArray, List.getElem?_cons_zero, List.getElem?_cons_succ] at x0 x1
  have HM := hide h1
  have hX1 := h1.1.lt
  have hX2 := HX.lt
  have HXX := hide HX
  clear h1 HX
  obtain ⟨g, hA, v1, hg⟩ := Row.at1 HM.out.2.1.1 (i := st.length - 1) (by omega)
  subst hA
  have HE := hide (show doM n st ca 5 a = some (if st.getD (st.length - 1) 0 = 0 then a else n, st.take (st.length - 1), ca) by rw [doM]; simp [hl])
  generalize st.getD (st.length - 1) 0 = y at *
  have p2 : (0 : Int) ≤ (st.length : Int) - 1 := by omega
  have p2' : (1 : Int) ≤ (st.length : Int) := by omega
  have p3 : (st.length : Int) - 1 < st.length := by omega
  have hcap := HM.out.2.1.1.cap.1
  have p4 : (st.length : Int) - 1 ≤ cs := by omega
  have p5 : st.length - 1 ≤ cs := by omega
  have HP := hide (show Row w1 base 3 1 (some ⟨g, 0, none⟩) (st.length - 1) cs (ints .i64 (st.take (st.length - 1))) by
    have := Row.prefix HM.out.2.1.1 (k := st.length - 1) (by omega)
    simpa [ints, List.map_take] using this)
  have hlen : st.length - 1 = (st.take (st.length - 1)).length := by simp
  have HL := hide hlen
  clear hlen
  by_cases hy : y = 0
  · subst hy
    have M3 := HM.out.at_ a
    have P3 := HP.out.set (a := ⟨X, 0, none⟩) (fun k hk => HM.out.2.1.1.box HM.out.1 (by decide) k hk) (.int .i64 a)
    have HM4 := hide (MM.mkS M3.1 HM.out.2.2 M3.2.1.2.1 HL.out P3 HM.out.2.1.2.2)
    have HB3 := hide ((HB.out.setCell (p := ⟨X, 0, none⟩) HM.out.2.2 (.int .i64 a)).setCell (p := ⟨X, 1, none⟩) HM.out.2.2 (.slice (some ⟨g, 0, none⟩) (st.length - 1) cs))
    clear M3 P3
    go_wp2_with fail
    go_ret
    rw [HE.out]
    refine ⟨rfl, HB3.out, fun n' st' ca' hr => ?_⟩
    simp only [if_true, Option.some.injEq, Prod.mk.injEq] at hr
    obtain ⟨rfl, rfl, rfl⟩ := hr
    exact ⟨_, _, _, _, HM4.out⟩
  · have HM4 := hide (MM.mkS HM.out.1 HM.out.2.2 HM.out.2.1.2.1 HL.out HP.out HM.out.2.1.2.2)
    have HB3 := hide (HB.out.setCell (p := ⟨X, 1, none⟩) HM.out.2.2 (.slice (some ⟨g, 0, none⟩) (st.length - 1) cs))
    have hy' : (y == 0) = false := by simpa using hy
    rw [if_neg hy] at HE
    clear hy
    go_wp2_with fail
    go_ret
    rw [HE.out]
    refine ⟨rfl, HB3.out, fun n' st' ca' hr => ?_⟩
    simp only [Option.some.injEq, Prod.mk.injEq] at hr
    obtain ⟨rfl, rfl, rfl⟩ := hr
    exact ⟨_, _, _, _, HM4.out⟩
set_option maxHeartbeats 2000000 in
theorem do_call (w : World) (base X : Nat) (n a : Int) (S C : Option Addr) (cs cc : Nat) (st ca : List Int) (h : MM w base X n S cs st C cc ca) (l1 : st.length ≤ 8) (l2 : ca.length ≤ 8) (hbw : base ≤ w.heap.size) :
    Calls Try.prog 58 #[.pointer (some ⟨X, 0, none⟩), .agg #[.int .i64 6, .int .i64 a]] w (DoPost w base X (doM n st ca 6 a)) := by
  obtain ⟨i0, hi, hz0, hz1, hz2⟩ := info_parts info64
  have b0 : Below w.heap.size w (w.alloc (.cells #[.int .i64 6, .int .i64 a] 78)) := (by repeat (first | exact Below.refl _ _ | with_reducible assumption | (refine Below.drew ?_) | (refine Below.drewN ?_ _) | (refine Below.alloc ?_ (by simp; try omega) _) | (refine Below.setCell ?_ (by simp; try omega) _)))
  have h0 := h.call b0
  have HX := Box.new w 78 #[.int .i64 6, .int .i64 a]
  go_enter Try.func58, Try.ntmps58
  go_wp2_with fail
  have HB := hide (show Below base w (w.alloc (.cells #[.int .i64 6, .int .i64 a] 78)) from b0.mono hbw)
  clear b0 h
  obtain ⟨m0, m1, m2, f0, f1, f2⟩ := h0.cells
  go_quiet (fail)
  have h1 := h0.call (w' := (w.alloc (.cells #[.int .i64 6, .int .i64 a] 78)).drewN nq) (Kit.Below.drewN (Below.refl _ _) nq)
  have HX := HX.drewN nq
  have HB := hide (Kit.Below.drewN HB.out nq)
  have hsz : base ≤ ((w.alloc (.cells #[.int .i64 6, .int .i64 a] 78)).drewN nq).heap.size := Nat.le_trans hbw HB.out.size
  clear m0 m1 m2 f0 f1 f2 h0
  generalize ((w.alloc (.cells #[.int .i64 6, .int .i64 a] 78)).drewN nq) = w1 at *
  obtain ⟨m0, m1, m2, f0, f1, f2⟩ := h1.cells
  have x0 := HX.cell 0
  have x1 := HX.cell 1
  simp only [List.getElem?_toArray, List.getElem?_cons_zero, List.getElem?_cons_succ] at x0 x1
  have HM := hide h1
  have hX1 := h1.1.lt
  have hX2 := HX.lt
  have HXX := hide HX
  clear h1 HX
  go_wp2_with fail
  go_region_law ((refine step_app (by rfl) _ _ 23 (by rfl) 3 i0 (.int .i64 0) 1 8 Try.underlying23 hi hz0 hz1 hz2 rfl (by decide) base C ca.length cc (ints .i64 ca) (by rfl) (by exact HM.out.2.1.2.1.call (by (repeat (first | with_reducible assumption | with_reducible exact Below.refl _ _ | with_reducible apply below_al | with_reducible apply below_dr | with_reducible apply below_dn)); done)) (by exact Nat.le_trans hsz (Below.size (B := w1.heap.size) (w := w1) (by (repeat (first | with_reducible assumption | with_reducible exact Below.refl _ _ | with_reducible apply below_al | with_reducible apply below_dr | with_reducible apply below_dn)); done))) _ 1 1 [.int .i64 n] (by rfl) (by exact rd_lit w1 #[.int .i64 n] 3 _ rfl) (by simp) (fun h => by cases h) oneI1 (by unfold maxLen; omega) (by omega) ?_; intro A2 n2 c2 w2 hn2 o2 g2 k2; have hd2 := (apart_app HM.out.2.1.2.2.symm k2 (fun k hk => Nat.lt_of_lt_of_le (HM.out.2.1.1.lt k hk).2 (Below.size (B := w1.heap.size) (w := w1) (by (repeat (first | with_reducible assumption | with_reducible exact Below.refl _ _ | with_reducible apply below_al | with_reducible apply below_dr | with_reducible apply below_dn)); done)))).symm; have G2 := MM.grownC (MM.call HM.out (by (repeat (first | with_reducible assumption | with_reducible exact Below.refl _ _ | with_reducible apply below_al | with_reducible apply below_dr | with_reducible apply below_dn)); done)) g2; have y0 := G2.1.cell 0; have y2 := G2.1.cell 2; have z0 := G2.1.frozen 0; have z2 := G2.1.frozen 2; simp only [List.getElem?_toArray, List.getElem?_cons_zero, List.getElem?_cons_succ] at y0 y2; have b2 := below_step (base := base) (w1 := w1) (by (repeat (first | with_reducible assumption | with_reducible exact Below.refl _ _ | with_reducible apply below_al | with_reducible apply below_dr | with_reducible apply below_dn)); done) g2 hsz (fun k hk => (HM.out.2.1.2.1.lt k hk).1); have hX3 := G2.1.lt; have xx1 := ((HXX.out.call (by (repeat (first | with_reducible assumption | with_reducible exact Below.refl _ _ | with_reducible apply below_al | with_reducible apply below_dr | with_reducible apply below_dn)); done)).grown g2 (HM.out.2.1.2.1.box HXX.out (by decide))).cell 1; simp only [List.getElem?_toArray, List.getElem?_cons_zero, List.getElem?_cons_succ] at xx1; have H2 := hide (And.intro hn2 (And.intro o2 (And.intro g2 (And.intro hd2 (And.intro G2 b2))))); clear hn2 o2 g2 k2 G2 b2 hd2))
  all_goals
    obtain ⟨hn2, o2, g2, hd2, G2, b2⟩ := H2.out
    subst hn2
    have M2 := MM.mkC G2.1 HM.out.2.2 G2.2 (A := A2) (m := ca.length + 1) (c := c2) (xs := ca ++ [n]) (by simp) (by simpa [ints] using o2) hd2
    have M3 := M2.at_ a
    have B3 := HB.out.trans ((b2.setCell (p := ⟨X, 2, none⟩) HM.out.2.2 (.slice A2 (ca.length + 1) c2)).setCell (p := ⟨X, 0, none⟩) HM.out.2.2 (.int .i64 a))
    clear H2 o2 g2 G2 b2 hd2 y0 z0 y2 z2 xx1
    generalize ((w2.setCell ⟨X, 2, none⟩ (.slice A2 (ca.length + 1) c2)).setCell ⟨X, 0, none⟩ (.int .i64 a)) = w3 at *
    have y1 := M3.cells.2.2.1
    have HM3 := hide M3
    have HB3 := hide B3
    clear M3 B3
    try simp only [List.getElem_toArray, List.getElem_cons_succ, List.getElem_cons_zero, Act.put, List.setIfInBounds_toArray, List.set_cons_zero, List.set_cons_succ]
    go_wp2_with fail
    go_ret
    have E : doM n st ca 6 a = if ca.length < 8 then some (a, st, ca ++ [n]) else none := rfl
    refine ⟨ret_bool ?_, HB3.out, ?_⟩
    · rw [E]
      split <;> simp <;> omega
    · intro n' st' ca' hr
      rw [E] at hr
      split at hr
      · simp only [Option.some.injEq, Prod.mk.injEq] at hr
        obtain ⟨rfl, rfl, rfl⟩ := hr
        exact ⟨_, _, _, _, HM3.out⟩
      · cases hr
set_option maxHeartbeats 2000000 in
theorem do_return (w : World) (base X : Nat) (n a : Int) (S C : Option Addr) (cs cc : Nat) (st ca : List Int) (h : MM w base X n S cs st C cc ca) (l1 : st.length ≤ 8) (l2 : ca.length ≤ 8) (hbw : base ≤ w.heap.size) (hl : 1 ≤ ca.length) :
    Calls Try.prog 58 #[.pointer (some ⟨X, 0, none⟩), .agg #[.int .i64 7, .int .i64 a]] w (DoPost w base X (doM n st ca 7 a)) := by
  obtain ⟨i0, hi, hz0, hz1, hz2⟩ := info_parts info64
  have b0 : Below w.heap.size w (w.alloc (.cells #[.int .i64 7, .int .i64 a] 78)) := (by repeat (first | exact Below.refl _ _ | with_reducible assumption | (refine Below.drew ?_) | (refine Below.drewN ?_ _) | (refine Below.alloc ?_ (by simp; try omega) _) | (refine Below.setCell ?_ (by simp; try omega) _)))
  have h0 := h.call b0
  have HX := Box.new w 78 #[.int .i64 7, .int .i64 a]
  have hd : decide ((ca.length : Int) - 1 < 0) = false := by simp; omega
  go_enter Try.func58, Try.ntmps58
  go_wp2_with fail
  have HB := hide (show Below base w (w.alloc (.cells #[.int .i64 7, .int .i64 a] 78)) from b0.mono hbw)
  clear b0 h
  obtain ⟨m0, m1, m2, f0, f1, f2⟩ := h0.cells
  go_quiet (fail)
  have h1 := h0.call (w' := (w.alloc (.cells #[.int .i64 7, .int .i64 a] 78)).drewN nq) (Kit.Below.drewN (Below.refl _ _) nq)
  have HX := HX.drewN nq
  have HB := hide (Kit.Below.drewN HB.out nq)
  have hsz : base ≤ ((w.alloc (.cells #[.int .i64 7, .int .i64 a] 78)).drewN nq).heap.size := Nat.le_trans hbw HB.out.size
  clear m0 m1 m2 f0 f1 f2 h0
  generalize ((w.alloc (.cells #[.int .i64 7, .int .i64 a] 78)).drewN nq) = w1 at *
  obtain ⟨m0, m1, m2, f0, f1, f2⟩ := h1.cells
  have x0 := HX.cell 0
  have x1 := HX.cell 1
  simp only [List.getElem?_toArray, List.getElem?_cons_zero, List.getElem?_cons_succ] at x0 x1
  have HM := hide h1
  have hX1 := h1.1.lt
  have hX2 := HX.lt
  have HXX := hide HX
  clear h1 HX
  obtain ⟨g, hA, v1, hg⟩ := Row.at1 HM.out.2.1.2.1 (i := ca.length - 1) (by omega)
  subst hA
  have HE := hide (show doM n st ca 7 a = some (ca.getD (ca.length - 1) 0, st, ca.take (ca.length - 1)) by rw [doM]; simp [hl])
  generalize ca.getD (ca.length - 1) 0 = y at *
  have p2 : (0 : Int) ≤ (ca.length : Int) - 1 := by omega
  have p2' : (1 : Int) ≤ (ca.length : Int) := by omega
  have p3 : (ca.length : Int) - 1 < ca.length := by omega
  have hcap := HM.out.2.1.2.1.cap.1
  have p4 : (ca.length : Int) - 1 ≤ cc := by omega
  have p5 : ca.length - 1 ≤ cc := by omega
  have HP := hide (show Row w1 base 3 1 (some ⟨g, 0, none⟩) (ca.length - 1) cc (ints .i64 (ca.take (ca.length - 1))) by
    have := Row.prefix HM.out.2.1.2.1 (k := ca.length - 1) (by omega)
    simpa [ints, List.map_take] using this)
  have hlen : ca.length - 1 = (ca.take (ca.length - 1)).length := by simp
  have HM4 := hide ((MM.mkC HM.out.1 HM.out.2.2 HM.out.2.1.1 hlen HP.out HM.out.2.1.2.2).at_ y)
  have HB3 := hide ((HB.out.setCell (p := ⟨X, 2, none⟩) HM.out.2.2 (.slice (some ⟨g, 0, none⟩) (ca.length - 1) cc)).setCell (p := ⟨X, 0, none⟩) HM.out.2.2 (.int .i64 y))
  clear hlen
  have hXg : g ≠ X := HM.out.2.1.2.1.box HM.out.1 (by decide) g (by unfold blk; rw [if_neg (by omega)]; rfl)
  go_wp2_with fail
  go_region_law (fail)
  all_goals
    go_wp2_with fail
    go_ret
    rw [HE.out]
    refine ⟨rfl, HB3.out.drew, fun n' st' ca' hr => ?_⟩
    simp only [Option.some.injEq, Prod.mk.injEq] at hr
    obtain ⟨rfl, rfl, rfl⟩ := hr
    exact ⟨_, _, _, _, HM4.out.call (below_dr (Below.refl _ _))⟩
end Go.Proofs.Ytjnnjgogpapbhaa.CDo3
