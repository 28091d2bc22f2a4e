/- Contracts of one instruction of a machine: adding and taking away. -/
import Derived.Test.YtjnnjgogpapbhaaCDo
namespace Go.Proofs.Ytjnnjgogpapbhaa.CDo2
set_option maxRecDepth 200000
open Go.ChangeShapes Go.WideShapes Go.ChangeAt Go.RowKit Kit CCode CMachine CMachines CInts CPutCode CStep CDo
set_option maxHeartbeats 2000000 in
theorem do_add_no (w : World) (base X : Nat) (n a : Int) (S C : Option Addr) (cs cc : Nat) (st ca : List Int) (h : MM w base X n S cs st C cc ca) (l1 : st.length ≤ 8) (l2 : ca.length ≤ 8) (hbw : base ≤ w.heap.size) (hl : ¬ 2 ≤ st.length) :
    Calls Try.prog 58 #[.pointer (some ⟨X, 0, none⟩), .agg #[.int .i64 2, .int .i64 a]] w (DoPost w base X (doM n st ca 2 a)) := by
  obtain ⟨i0, hi, hz0, hz1, hz2⟩ := info_parts info64
  have b0 : Below w.heap.size w (w.alloc (.cells #[.int .i64 2, .int .i64 a] 78)) := (by repeat (first | exact Below.refl _ _ | with_reducible assumption | (refine Below.drew ?_) | (refine Below.drewN ?_ _) | (refine Below.alloc ?_ (by simp; try omega) _) | (refine Below.setCell ?_ (by simp; try omega) _)))
  have h0 := h.call b0
  have HX := Box.new w 78 #[.int .i64 2, .int .i64 a]
  have hd : (st.length : Int) - 1 < 1 := by omega
  go_enter Try.func58, Try.ntmps58
  go_wp2_with fail
  have HB := hide (show Below base w (w.alloc (.cells #[.int .i64 2, .int .i64 a] 78)) from b0.mono hbw)
  clear b0 h
  obtain ⟨m0, m1, m2, f0, f1, f2⟩ := h0.cells
  go_quiet (fail)
  have h1 := h0.call (w' := (w.alloc (.cells #[.int .i64 2, .int .i64 a] 78)).drewN nq) (Kit.Below.drewN (Below.refl _ _) nq)
  have HX := HX.drewN nq
  have HB := hide (Kit.Below.drewN HB.out nq)
  have hsz : base ≤ ((w.alloc (.cells #[.int .i64 2, .int .i64 a] 78)).drewN nq).heap.size := Nat.le_trans hbw HB.out.size
  clear m0 m1 m2 f0 f1 f2 h0
  generalize ((w.alloc (.cells #[.int .i64 2, .int .i64 a] 78)).drewN nq) = w1 at *
  obtain ⟨m0, m1, m2, f0, f1, f2⟩ := h1.cells
  have x0 := HX.cell 0
  have x1 := HX.cell 1
  simp only [List.getElem?_toArray, List.getElem?_cons_zero, List.getElem?_cons_succ] at x0 x1
  have HM := hide h1
  have hX1 := h1.1.lt
  have hX2 := HX.lt
  have HXX := hide HX
  clear h1 HX
  go_wp2_with fail
  go_ret
  have E : doM n st ca 2 a = none := by rw [doM]; simp [hl]
  rw [E]
  exact ⟨rfl, HB.out, fun _ _ _ hr => by cases hr⟩
set_option maxHeartbeats 2000000 in
theorem do_sub_no (w : World) (base X : Nat) (n a : Int) (S C : Option Addr) (cs cc : Nat) (st ca : List Int) (h : MM w base X n S cs st C cc ca) (l1 : st.length ≤ 8) (l2 : ca.length ≤ 8) (hbw : base ≤ w.heap.size) (hl : ¬ 2 ≤ st.length) :
    Calls Try.prog 58 #[.pointer (some ⟨X, 0, none⟩), .agg #[.int .i64 3, .int .i64 a]] w (DoPost w base X (doM n st ca 3 a)) := by
  obtain ⟨i0, hi, hz0, hz1, hz2⟩ := info_parts info64
  have b0 : Below w.heap.size w (w.alloc (.cells #[.int .i64 3, .int .i64 a] 78)) := (by repeat (first | exact Below.refl _ _ | with_reducible assumption | (refine Below.drew ?_) | (refine Below.drewN ?_ _) | (refine Below.alloc ?_ (by simp; try omega) _) | (refine Below.setCell ?_ (by simp; try omega) _)))
  have h0 := h.call b0
  have HX := Box.new w 78 #[.int .i64 3, .int .i64 a]
  have hd : (st.length : Int) - 1 < 1 := by omega
  go_enter Try.func58, Try.ntmps58
  go_wp2_with fail
  have HB := hide (show Below base w (w.alloc (.cells #[.int .i64 3, .int .i64 a] 78)) from b0.mono hbw)
  clear b0 h
  obtain ⟨m0, m1, m2, f0, f1, f2⟩ := h0.cells
  go_quiet (fail)
  have h1 := h0.call (w' := (w.alloc (.cells #[.int .i64 3, .int .i64 a] 78)).drewN nq) (Kit.Below.drewN (Below.refl _ _) nq)
  have HX := HX.drewN nq
  have HB := hide (Kit.Below.drewN HB.out nq)
  have hsz : base ≤ ((w.alloc (.cells #[.int .i64 3, .int .i64 a] 78)).drewN nq).heap.size := Nat.le_trans hbw HB.out.size
  clear m0 m1 m2 f0 f1 f2 h0
  generalize ((w.alloc (.cells #[.int .i64 3, .int .i64 a] 78)).drewN nq) = w1 at *
  obtain ⟨m0, m1, m2, f0, f1, f2⟩ := h1.cells
  have x0 := HX.cell 0
  have x1 := HX.cell 1
  simp only [List.getElem?_toArray, List.getElem?_cons_zero, List.getElem?_cons_succ] at x0 x1
  have HM := hide h1
  have hX1 := h1.1.lt
  have hX2 := HX.lt
  have HXX := hide HX
  clear h1 HX
  go_wp2_with fail
  go_ret
  have E : doM n st ca 3 a = none := by rw [doM]; simp [hl]
  rw [E]
  exact ⟨rfl, HB.out, fun _ _ _ hr => by cases hr⟩
set_option maxHeartbeats 2000000 in
theorem do_add (w : World) (base X : Nat) (n a : Int) (S C : Option Addr) (cs cc : Nat) (st ca : List Int) (h : MM w base X n S cs st C cc ca) (l1 : st.length ≤ 8) (l2 : ca.length ≤ 8) (hbw : base ≤ w.heap.size) (hin : InR 0 65535 st) (hl : 2 ≤ st.length) :
    Calls Try.prog 58 #[.pointer (some ⟨X, 0, none⟩), .agg #[.int .i64 2, .int .i64 a]] w (DoPost w base X (doM n st ca 2 a)) := by
  obtain ⟨i0, hi, hz0, hz1, hz2⟩ := info_parts info64
  have b0 : Below w.heap.size w (w.alloc (.cells #[.int .i64 2, .int .i64 a] 78)) := (by repeat (first | exact Below.refl _ _ | with_reducible assumption | (refine Below.drew ?_) | (refine Below.drewN ?_ _) | (refine Below.alloc ?_ (by simp; try omega) _) | (refine Below.setCell ?_ (by simp; try omega) _)))
  have h0 := h.call b0
  have HX := Box.new w 78 #[.int .i64 2, .int .i64 a]
  have hd : ¬ (st.length : Int) - 1 < 1 := by omega
  go_enter Try.func58, Try.ntmps58
  go_wp2_with fail
  have HB := hide (show Below base w (w.alloc (.cells #[.int .i64 2, .int .i64 a] 78)) from b0.mono hbw)
  clear b0 h
  obtain ⟨m0, m1, m2, f0, f1, f2⟩ := h0.cells
  go_quiet (fail)
  have h1 := h0.call (w' := (w.alloc (.cells #[.int .i64 2, .int .i64 a] 78)).drewN nq) (Kit.Below.drewN (Below.refl _ _) nq)
  have HX := HX.drewN nq
  have HB := hide (Kit.Below.drewN HB.out nq)
  have hsz : base ≤ ((w.alloc (.cells #[.int .i64 2, .int .i64 a] 78)).drewN nq).heap.size := Nat.le_trans hbw HB.out.size
  clear m0 m1 m2 f0 f1 f2 h0
  generalize ((w.alloc (.cells #[.int .i64 2, .int .i64 a] 78)).drewN nq) = w1 at *
  obtain ⟨m0, m1, m2, f0, f1, f2⟩ := h1.cells
  have x0 := HX.cell 0
  have x1 := HX.cell 1
  simp only [List.getElem?_toArray, List.getElem?_cons_zero, List.getElem?_cons_succ] at x0 x1
  have HM := hide h1
  have hX1 := h1.1.lt
  have hX2 := HX.lt
  have HXX := hide HX
  clear h1 HX
  obtain ⟨g, hA, v0, hg⟩ := Row.at1 HM.out.2.1.1 (i := st.length - 2) (by omega)
  obtain ⟨g', hA', v1, _⟩ := Row.at1 HM.out.2.1.1 (i := st.length - 1) (by omega)
  rw [hA] at hA'
  simp only [Option.some.injEq, Addr.mk.injEq, and_true] at hA'
  subst hA' hA
  have e1 : st.length - 2 = st.length - 1 - 1 := by omega
  have x0b : 0 ≤ st.getD (st.length - 2) 0 ∧ st.getD (st.length - 2) 0 ≤ 65535 := by
    rw [List.getD_eq_getElem?_getD, List.getElem?_eq_getElem (by omega)]
    exact hin _ (List.getElem_mem _)
  have y0b : 0 ≤ st.getD (st.length - 1) 0 ∧ st.getD (st.length - 1) 0 ≤ 65535 := by
    rw [List.getD_eq_getElem?_getD, List.getElem?_eq_getElem (by omega)]
    exact hin _ (List.getElem_mem _)
  have HE := hide (show doM n st ca 2 a = some (n, st.take (st.length - 2) ++ [(st.getD (st.length - 2) 0 + st.getD (st.length - 1) 0) % 65536], ca) by rw [doM]; simp [hl])
  generalize st.getD (st.length - 2) 0 = x at *
  generalize st.getD (st.length - 1) 0 = y at *
  rw [e1] at v0
  have HE1 := hide e1
  clear e1 hin
  have w52 : IntKind.i64.wrap ((st.length : Int) - 1 - 1) = (st.length : Int) - 1 - 1 := IntWalk.i64_in _ (by omega)
  have p0 : (0 : Int) ≤ (st.length : Int) - 1 - 1 := by omega
  have p0' : (1 : Int) ≤ (st.length : Int) - 1 := by omega
  have p1 : (st.length : Int) - 1 - 1 < st.length := by omega
  have p2 : (0 : Int) ≤ (st.length : Int) - 1 := by omega
  have p2' : (1 : Int) ≤ (st.length : Int) := by omega
  have p3 : (st.length : Int) - 1 < st.length := by omega
  go_wp2_with fail
  go_quiet (fail)
  clear w52
  have h2 := HM.out.call (w' := w1.drewN nq) (Kit.Below.drewN (Below.refl _ _) nq)
  have HX2 := HXX.out.drewN nq
  have HB2 := hide (Kit.Below.drewN HB.out nq)
  have hsz2 : base ≤ (w1.drewN nq).heap.size := hsz
  clear m0 m1 m2 f0 f1 f2 x0 x1 v0 v1 HM HXX HB hsz hX1 hX2 hg
  generalize w1.drewN nq = w2 at *
  obtain ⟨m0, m1, m2, f0, f1, f2⟩ := h2.cells
  have x0 := HX2.cell 0
  have x1 := HX2.cell 1
  simp only [List.getElem?_toArray, List.getElem?_cons_zero, List.getElem?_cons_succ] at x0 x1
  have HM := hide h2
  have hX1 := h2.1.lt
  have hX2 := HX2.lt
  have hcap := h2.2.1.1.cap.1
  have p4 : (st.length : Int) - 1 - 1 ≤ cs := by omega
  have p5 : st.length - 1 - 1 ≤ cs := by omega
  have HP := hide (show Row w2 base 3 1 (some ⟨g, 0, none⟩) (st.length - 1 - 1) cs (ints .i64 (st.take (st.length - 2))) by
    have := Row.prefix h2.2.1.1 (k := st.length - 1 - 1) (by omega)
    rw [HE1.out]
    simpa [ints, List.map_take] using this)
  clear h2 HX2
  go_wp2_with (at_builtin; refine wpList_app (w2.alloc (.cells #[.int .i64 ((x + y) % 65536)] 3)) rfl (.tmp 74) (.tmp 79) 23 rfl 3 i0 (.int .i64 0) 1 8 Try.underlying23 hi hz0 hz1 hz2 rfl (by decide) base (some ⟨g, 0, none⟩) (st.length - 1 - 1) cs _ rfl (HP.out.alloc _) ?hb _ 1 1 [.int .i64 ((x + y) % 65536)] rfl (rd_lit w2 #[.int .i64 ((x + y) % 65536)] 3 _ rfl) rfl (fun h => by cases h) oneI1 ?n1 ?n2 ?_)
  case hb => exact Nat.le_trans hsz2 (by simp)
  case n1 => unfold maxLen; omega
  case n2 => omega
  intro A3 n3 c3 w3 hn3 o3 g3 k3
  have hd3 := apart_app (w := w2) HM.out.2.1.2.2 (fun k hk => (k3 k hk).imp id (fun h => by omega)) (fun k hk => (HM.out.2.1.2.1.lt k hk).2)
  have G3 := MM.grownS (MM.call HM.out (by (repeat (first | with_reducible assumption | with_reducible exact Below.refl _ _ | with_reducible apply below_al | with_reducible apply below_dr | with_reducible apply below_dn)); done)) g3
  have b3 := below_step (base := base) (w1 := w2) (by (repeat (first | with_reducible assumption | with_reducible exact Below.refl _ _ | with_reducible apply below_al | with_reducible apply below_dr | with_reducible apply below_dn)); done) g3 hsz2 (fun k hk => (HM.out.2.1.1.lt k hk).1)
  have y1 := G3.1.cell 1
  have z1 := G3.1.frozen 1
  simp only [List.getElem?_toArray, List.getElem?_cons_zero, List.getElem?_cons_succ] at y1
  have M3 := MM.mkS G3.1 HM.out.2.2 G3.2 (A := A3) (m := n3) (c := c3) (xs := st.take (st.length - 2) ++ [(x + y) % 65536]) (by rw [hn3]; simp; omega) (by simpa [ints] using o3) hd3
  have HB3 := hide (HB2.out.trans (b3.setCell (p := ⟨X, 1, none⟩) HM.out.2.2 (.slice A3 n3 c3)))
  have HM3 := hide M3
  clear hn3 o3 g3 k3 hd3 G3 b3 M3
  go_wp2_with fail
  go_ret
  rw [HE.out]
  refine ⟨rfl, HB3.out, fun n' st' ca' hr => ?_⟩
  simp only [Option.some.injEq, Prod.mk.injEq] at hr
  obtain ⟨rfl, rfl, rfl⟩ := hr
  exact ⟨_, _, _, _, HM3.out⟩
set_option maxHeartbeats 2000000 in
theorem do_sub (w : World) (base X : Nat) (n a : Int) (S C : Option Addr) (cs cc : Nat) (st ca : List Int) (h : MM w base X n S cs st C cc ca) (l1 : st.length ≤ 8) (l2 : ca.length ≤ 8) (hbw : base ≤ w.heap.size) (hin : InR 0 65535 st) (hl : 2 ≤ st.length) :
    Calls Try.prog 58 #[.pointer (some ⟨X, 0, none⟩), .agg #[.int .i64 3, .int .i64 a]] w (DoPost w base X (doM n st ca 3 a)) := by
  obtain ⟨i0, hi, hz0, hz1, hz2⟩ := info_parts info64
  have b0 : Below w.heap.size w (w.alloc (.cells #[.int .i64 3, .int .i64 a] 78)) := (by repeat (first | exact Below.refl _ _ | with_reducible assumption | (refine Below.drew ?_) | (refine Below.drewN ?_ _) | (refine Below.alloc ?_ (by simp; try omega) _) | (refine Below.setCell ?_ (by simp; try omega) _)))
  have h0 := h.call b0
  have HX := Box.new w 78 #[.int .i64 3, .int .i64 a]
  have hd : ¬ (st.length : Int) - 1 < 1 := by omega
  go_enter Try.func58, Try.ntmps58
  go_wp2_with fail
  have HB := hide (show Below base w (w.alloc (.cells #[.int .i64 3, .int .i64 a] 78)) from b0.mono hbw)
  clear b0 h
  obtain ⟨m0, m1, m2, f0, f1, f2⟩ := h0.cells
  go_quiet (fail)
  have h1 := h0.call (w' := (w.alloc (.cells #[.int .i64 3, .int .i64 a] 78)).drewN nq) (Kit.Below.drewN (Below.refl _ _) nq)
  have HX := HX.drewN nq
  have HB := hide (Kit.Below.drewN HB.out nq)
  have hsz : base ≤ ((w.alloc (.cells #[.int .i64 3, .int .i64 a] 78)).drewN nq).heap.size := Nat.le_trans hbw HB.out.size
  clear m0 m1 m2 f0 f1 f2 h0
  generalize ((w.alloc (.cells #[.int .i64 3, .int .i64 a] 78)).drewN nq) = w1 at *
  obtain ⟨m0, m1, m2, f0, f1, f2⟩ := h1.cells
  have x0 := HX.cell 0
  have x1 := HX.cell 1
  simp only [List.getElem?_toArray, List.getElem?_cons_zero, List.getElem?_cons_succ] at x0 x1
  have HM := hide h1
  have hX1 := h1.1.lt
  have hX2 := HX.lt
  have HXX := hide HX
  clear h1 HX
  obtain ⟨g, hA, v0, hg⟩ := Row.at1 HM.out.2.1.1 (i := st.length - 2) (by omega)
  obtain ⟨g', hA', v1, _⟩ := Row.at1 HM.out.2.1.1 (i := st.length - 1) (by omega)
  rw [hA] at hA'
  simp only [Option.some.injEq, Addr.mk.injEq, and_true] at hA'
  subst hA' hA
  have e1 : st.length - 2 = st.length - 1 - 1 := by omega
  have x0b : 0 ≤ st.getD (st.length - 2) 0 ∧ st.getD (st.length - 2) 0 ≤ 65535 := by
    rw [List.getD_eq_getElem?_getD, List.getElem?_eq_getElem (by omega)]
    exact hin _ (List.getElem_mem _)
  have y0b : 0 ≤ st.getD (st.length - 1) 0 ∧ st.getD (st.length - 1) 0 ≤ 65535 := by
    rw [List.getD_eq_getElem?_getD, List.getElem?_eq_getElem (by omega)]
    exact hin _ (List.getElem_mem _)
  have HE := hide (show doM n st ca 3 a = some (n, st.take (st.length - 2) ++ [(st.getD (st.length - 2) 0 + (65536 - st.getD (st.length - 1) 0)) % 65536], ca) by rw [doM]; simp [hl])
  generalize st.getD (st.length - 2) 0 = x at *
  generalize st.getD (st.length - 1) 0 = y at *
  rw [e1] at v0
  have HE1 := hide e1
  clear e1 hin
  have w52 : IntKind.i64.wrap ((st.length : Int) - 1 - 1) = (st.length : Int) - 1 - 1 := IntWalk.i64_in _ (by omega)
  have p0 : (0 : Int) ≤ (st.length : Int) - 1 - 1 := by omega
  have p0' : (1 : Int) ≤ (st.length : Int) - 1 := by omega
  have p1 : (st.length : Int) - 1 - 1 < st.length := by omega
  have p2 : (0 : Int) ≤ (st.length : Int) - 1 := by omega
  have p2' : (1 : Int) ≤ (st.length : Int) := by omega
  have p3 : (st.length : Int) - 1 < st.length := by omega
  go_wp2_with fail
  go_quiet (fail)
  clear w52
  have h2 := HM.out.call (w' := w1.drewN nq) (Kit.Below.drewN (Below.refl _ _) nq)
  have HX2 := HXX.out.drewN nq
  have HB2 := hide (Kit.Below.drewN HB.out nq)
  have hsz2 : base ≤ (w1.drewN nq).heap.size := hsz
  clear m0 m1 m2 f0 f1 f2 x0 x1 v0 v1 HM HXX HB hsz hX1 hX2 hg
  generalize w1.drewN nq = w2 at *
  obtain ⟨m0, m1, m2, f0, f1, f2⟩ := h2.cells
  have x0 := HX2.cell 0
  have x1 := HX2.cell 1
  simp only [List.getElem?_toArray, List.getElem?_cons_zero, List.getElem?_cons_succ] at x0 x1
  have HM := hide h2
  have hX1 := h2.1.lt
  have hX2 := HX2.lt
  have hcap := h2.2.1.1.cap.1
  have p4 : (st.length : Int) - 1 - 1 ≤ cs := by omega
  have p5 : st.length - 1 - 1 ≤ cs := by omega
  have HP := hide (show Row w2 base 3 1 (some ⟨g, 0, none⟩) (st.length - 1 - 1) cs (ints .i64 (st.take (st.length - 2))) by
    have := Row.prefix h2.2.1.1 (k := st.length - 1 - 1) (by omega)
    rw [HE1.out]
    simpa [ints, List.map_take] using this)
  clear h2 HX2
  go_wp2_with (at_builtin; refine wpList_app (w2.alloc (.cells #[.int .i64 ((x + (65536 - y)) % 65536)] 3)) rfl (.tmp 74) (.tmp 79) 23 rfl 3 i0 (.int .i64 0) 1 8 Try.underlying23 hi hz0 hz1 hz2 rfl (by decide) base (some ⟨g, 0, none⟩) (st.length - 1 - 1) cs _ rfl (HP.out.alloc _) ?hb _ 1 1 [.int .i64 ((x + (65536 - y)) % 65536)] rfl (rd_lit w2 #[.int .i64 ((x + (65536 - y)) % 65536)] 3 _ rfl) rfl (fun h => by cases h) oneI1 ?n1 ?n2 ?_)
  case hb => exact Nat.le_trans hsz2 (by simp)
  case n1 => unfold maxLen; omega
  case n2 => omega
  intro A3 n3 c3 w3 hn3 o3 g3 k3
  have hd3 := apart_app (w := w2) HM.out.2.1.2.2 (fun k hk => (k3 k hk).imp id (fun h => by omega)) (fun k hk => (HM.out.2.1.2.1.lt k hk).2)
  have G3 := MM.grownS (MM.call HM.out (by (repeat (first | with_reducible assumption | with_reducible exact Below.refl _ _ | with_reducible apply below_al | with_reducible apply below_dr | with_reducible apply below_dn)); done)) g3
  have b3 := below_step (base := base) (w1 := w2) (by (repeat (first | with_reducible assumption | with_reducible exact Below.refl _ _ | with_reducible apply below_al | with_reducible apply below_dr | with_reducible apply below_dn)); done) g3 hsz2 (fun k hk => (HM.out.2.1.1.lt k hk).1)
  have y1 := G3.1.cell 1
  have z1 := G3.1.frozen 1
  simp only [List.getElem?_toArray, List.getElem?_cons_zero, List.getElem?_cons_succ] at y1
  have M3 := MM.mkS G3.1 HM.out.2.2 G3.2 (A := A3) (m := n3) (c := c3) (xs := st.take (st.length - 2) ++ [(x + (65536 - y)) % 65536]) (by rw [hn3]; simp; omega) (by simpa [ints] using o3) hd3
  have HB3 := hide (HB2.out.trans (b3.setCell (p := ⟨X, 1, none⟩) HM.out.2.2 (.slice A3 n3 c3)))
  have HM3 := hide M3
  clear hn3 o3 g3 k3 hd3 G3 b3 M3
  go_wp2_with fail
  go_ret
  rw [HE.out]
  refine ⟨rfl, HB3.out, fun n' st' ca' hr => ?_⟩
  simp only [Option.some.injEq, Prod.mk.injEq] at hr
  obtain ⟨rfl, rfl, rfl⟩ := hr
  exact ⟨_, _, _, _, HM3.out⟩
end Go.Proofs.Ytjnnjgogpapbhaa.CDo2
