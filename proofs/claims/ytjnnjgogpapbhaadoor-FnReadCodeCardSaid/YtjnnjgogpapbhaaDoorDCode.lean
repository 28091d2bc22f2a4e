/- The draw of an instruction. -/
import Derived.Test.YtjnnjgogpapbhaaDoorDVar
import Derived.Test.YtjnnjgogpapbhaaDoorCCode
namespace Go.Proofs.YtjnnjgogpapbhaaDoor.DCode
set_option maxRecDepth 200000
open Go.ChangeShapes Go.WideShapes Go.ChangeAt Go.RowKit Kit CCode DPick DVar
def DrewCode (w0 : World) (B R : Nat) (N : Int) (e : Ending) (w' : World) : Prop := ∃ a b : Int, e = .returned (.agg #[.int .i64 a, .int .i64 b]) ∧ -1 ≤ a ∧ a ≤ 65536 ∧ -1 ≤ b ∧ b ≤ 65536 ∧ Tp w0 w' B R N
/-- A struct of two ints out of a literal that was laid just before a number was drawn. -/
theorem lit2_at {w1 w2 : World} {cs : Array Value} {t : TypeId} {R n : Nat} (g : (w1.alloc (.cells cs t)).grownBy w2 (some R)) (hR : R < w1.heap.size) {i : Int} (h0 : 0 ≤ i) (h1 : i < n) (hn : cs.size = n * 2) (lo hi : Int) (hb : ∀ v ∈ cs.toList, ∃ z, v = Value.int .i64 z ∧ lo ≤ z ∧ z ≤ hi) :
    ∃ y z, lo ≤ y ∧ y ≤ hi ∧ lo ≤ z ∧ z ≤ hi ∧ w2.cell? ⟨w1.heap.size, i.toNat * 2, none⟩ = some (.int .i64 y) ∧ w2.cell? ⟨w1.heap.size, i.toNat * 2 + 1, none⟩ = some (.int .i64 z) := by
  have hx : Box w2 w1.heap.size t cs := (Box.new w1 t cs).grown g (fun k hk => by injection hk with hk; omega)
  obtain ⟨y, hy, y0, y1⟩ := hb (cs[i.toNat * 2]'(by omega)) (by simp)
  obtain ⟨z, hz, z0, z1⟩ := hb (cs[i.toNat * 2 + 1]'(by omega)) (by simp)
  refine ⟨y, z, y0, y1, z0, z1, ?_, ?_⟩
  · rw [hx.cell, Array.getElem?_eq_getElem (by omega), hy]
  · rw [hx.cell, Array.getElem?_eq_getElem (by omega), hz]
/-- Two variables that hold instructions: the result's and the function's own. -/
def Two (w : World) (Y X : Nat) (a b c d : Int) : Prop := Box w Y 25 #[.int .i64 a, .int .i64 b] ∧ Box w X 25 #[.int .i64 c, .int .i64 d] ∧ Y ≠ X
section
variable {w w' : World} {Y X R : Nat} {a b c d : Int}
theorem Two.grown (h : Two w Y X a b c d) (g : w.grownBy w' (some R)) (hY : R < Y) (hX : R < X) : Two w' Y X a b c d :=
  ⟨h.1.grown g (fun k hk => by injection hk with hk; omega), h.2.1.grown g (fun k hk => by injection hk with hk; omega), h.2.2⟩
theorem Two.alloc (h : Two w Y X a b c d) (o : Obj) : Two (w.alloc o) Y X a b c d := ⟨h.1.alloc o, h.2.1.alloc o, h.2.2⟩
theorem Two.cells (h : Two w Y X a b c d) : w.cell? ⟨Y, 0, none⟩ = some (.int .i64 a) ∧ w.cell? ⟨Y, 1, none⟩ = some (.int .i64 b) ∧ w.cell? ⟨X, 0, none⟩ = some (.int .i64 c) ∧ w.cell? ⟨X, 1, none⟩ = some (.int .i64 d) ∧ w.frozen? ⟨Y, 0, none⟩ = false ∧ w.frozen? ⟨Y, 1, none⟩ = false :=
  ⟨h.1.cell 0, h.1.cell 1, h.2.1.cell 0, h.2.1.cell 1, h.1.frozen 0, h.1.frozen 1⟩
theorem Two.ret (h : Two w Y X a b c d) (u v : Int) : (w.setCell ⟨Y, 0, none⟩ (.int .i64 u)).cell? ⟨Y, 0, none⟩ = some (.int .i64 u) ∧ ((w.setCell ⟨Y, 0, none⟩ (.int .i64 u)).setCell ⟨Y, 1, none⟩ (.int .i64 v)).cell? ⟨Y, 1, none⟩ = some (.int .i64 v) ∧ ((w.setCell ⟨Y, 0, none⟩ (.int .i64 u)).setCell ⟨Y, 1, none⟩ (.int .i64 v)).cell? ⟨Y, 0, none⟩ = some (.int .i64 u) :=
  ⟨(h.1.set 0 _).cell 0, ((h.1.set 0 _).set 1 _).cell 1, ((h.1.set 0 _).set 1 _).cell 0⟩
theorem Two.setX (h : Two w Y X a b c d) (v : Int) : Two (w.setCell ⟨X, 1, none⟩ (.int .i64 v)) Y X a b c v := ⟨h.1.far (p := ⟨X, 1, none⟩) h.2.2 _, h.2.1.set 1 _, h.2.2⟩
end
theorem code_any {w0 w : World} {B R : Nat} {N : Int} (T : Tp w0 w B R N) (hN : N ≤ 1000000) (n : Int) (hn : 0 ≤ n) (hn' : n ≤ 1000) :
    Calls Tryd.prog 45 #[.pointer (some ⟨R, 0, none⟩), .int .i64 n] w (DrewCode w0 B R (N + 8)) := by
  have BY := Box.new w 25 #[.int .i64 0, .int .i64 0]
  have hYR := T.lt
  have hw0Y := T.2.size
  go_enter Tryd.func45, Tryd.ntmps45
  go_wp2_with fail
  refine (pick_tp (by first | with_reducible assumption | exact Tp.alloc (by with_reducible assumption) _ | exact Tp.alloc (Tp.alloc (by with_reducible assumption) _) _ | exact Tp.drewN (by with_reducible assumption) _ | exact Tp.drew (by with_reducible assumption) | exact Tp.drawn (by with_reducible assumption) | exact Tp.alloc (Tp.drewN (by with_reducible assumption) _) _ | exact Tp.alloc (Tp.drew (by with_reducible assumption)) _ | exact Tp.alloc (Tp.alloc (Tp.alloc (by with_reducible assumption) _) _) _) (by omega) _ (by omega) (by omega)).mono ?_
  rintro e w1 ⟨x, rfl, x0, x1, T1, g1⟩
  have BY1 := BY.grown g1 (fun k hk => by injection hk with hk; omega)
  clear T g1
  have HX : Hid (Two (w1.alloc (.cells #[.int .i64 x, .int .i64 0] 25)) w.heap.size w1.heap.size 0 0 x 0) := ⟨BY1.alloc _, Box.new w1 25 #[.int .i64 x, .int .i64 0], fun e => by have := BY1.lt; omega⟩
  have hXR := T1.lt
  have hw0X := T1.2.size
  clear BY BY1
  cases hh : hasArgB x
  · have HH := hide hh
    clear hh
    go_wp2_with fail
    refine (l29Has_any x _).mono ?_
    rintro e w' ⟨rfl, rfl⟩
    rw [HH.out]
    go_wp2_with fail
    refine (odd_tp (by first | with_reducible assumption | exact Tp.alloc (by with_reducible assumption) _ | exact Tp.alloc (Tp.alloc (by with_reducible assumption) _) _ | exact Tp.drewN (by with_reducible assumption) _ | exact Tp.drew (by with_reducible assumption) | exact Tp.drawn (by with_reducible assumption) | exact Tp.alloc (Tp.drewN (by with_reducible assumption) _) _ | exact Tp.alloc (Tp.drew (by with_reducible assumption)) _ | exact Tp.alloc (Tp.alloc (Tp.alloc (by with_reducible assumption) _) _) _) (by omega) _ (by omega) (by omega)).mono ?_
    rintro e w3 ⟨bo, rfl, T3, g3⟩
    have X3 := HX.out
    have HS := hide (Two.grown X3 g3 hYR hXR)
    cases bo
    · obtain ⟨s0, s1, s2, s3, f0, f1⟩ := HS.out.cells
      go_wp2_with fail
      obtain ⟨c0, c1, c2⟩ := Two.ret (HS.out) x 0
      exact bodyPost_ret (v := .agg #[.int .i64 x, .int .i64 0]) (by simp [results, Tryd.results45, go_sem, c0, c1, c2]) rfl ⟨_, _, rfl, by omega, by omega, by omega, by omega, ((T3.set hw0Y hYR _).set hw0Y hYR _).more (by omega)⟩
    · go_wp2_with fail
      refine (pick_tp (by first | with_reducible assumption | exact Tp.alloc (by with_reducible assumption) _ | exact Tp.alloc (Tp.alloc (by with_reducible assumption) _) _ | exact Tp.drewN (by with_reducible assumption) _ | exact Tp.drew (by with_reducible assumption) | exact Tp.drawn (by with_reducible assumption) | exact Tp.alloc (Tp.drewN (by with_reducible assumption) _) _ | exact Tp.alloc (Tp.drew (by with_reducible assumption)) _ | exact Tp.alloc (Tp.alloc (Tp.alloc (by with_reducible assumption) _) _) _) (by omega) _ (by omega) (by omega)).mono ?_
      rintro e w4 ⟨i, rfl, i0, i1, T4, g4⟩
      obtain ⟨y', z, y0, y1, z0, z1, hy, hz⟩ := lit2_at (n := 5) g4 T3.lt i0 i1 rfl (-1) 65536 (by repeat (first | exact List.forall_mem_nil _ | refine List.forall_mem_cons.2 ⟨⟨_, rfl, by omega, by omega⟩, ?_⟩))
      have HT := hide (Two.grown (HS.out.alloc _) g4 hYR hXR)
      obtain ⟨s0, s1, s2, s3, f0, f1⟩ := HT.out.cells
      clear g4
      go_wp2_with fail
      obtain ⟨c0, c1, c2⟩ := Two.ret (HT.out) y' z
      exact bodyPost_ret (v := .agg #[.int .i64 y', .int .i64 z]) (by simp [results, Tryd.results45, go_sem, c0, c1, c2]) rfl ⟨_, _, rfl, by omega, by omega, by omega, by omega, ((T4.set hw0Y hYR _).set hw0Y hYR _).more (by omega)⟩
  · have HH := hide hh
    clear hh
    obtain ⟨s0, s1, s2, s3, f0, f1⟩ := HX.out.cells
    go_wp2_with fail
    refine (l29Has_any x _).mono ?_
    rintro e w' ⟨rfl, rfl⟩
    rw [HH.out]
    clear s0 s1 s2 s3 f0 f1
    go_wp2_with fail
    refine (pick_tp (by first | with_reducible assumption | exact Tp.alloc (by with_reducible assumption) _ | exact Tp.alloc (Tp.alloc (by with_reducible assumption) _) _ | exact Tp.drewN (by with_reducible assumption) _ | exact Tp.drew (by with_reducible assumption) | exact Tp.drawn (by with_reducible assumption) | exact Tp.alloc (Tp.drewN (by with_reducible assumption) _) _ | exact Tp.alloc (Tp.drew (by with_reducible assumption)) _ | exact Tp.alloc (Tp.alloc (Tp.alloc (by with_reducible assumption) _) _) _) (by omega) _ (by omega) (by omega)).mono ?_
    rintro e w5 ⟨p, rfl, p0, p1, T5, g5⟩
    have X5 := Two.grown HX.out g5 hYR hXR
    clear T1 g5
    go_wp2_with fail
    refine (pick_tp (by first | with_reducible assumption | exact Tp.alloc (by with_reducible assumption) _ | exact Tp.alloc (Tp.alloc (by with_reducible assumption) _) _ | exact Tp.drewN (by with_reducible assumption) _ | exact Tp.drew (by with_reducible assumption) | exact Tp.drawn (by with_reducible assumption) | exact Tp.alloc (Tp.drewN (by with_reducible assumption) _) _ | exact Tp.alloc (Tp.drew (by with_reducible assumption)) _ | exact Tp.alloc (Tp.alloc (Tp.alloc (by with_reducible assumption) _) _) _) (by omega) _ (by omega) (by omega)).mono ?_
    rintro e w6 ⟨q, rfl, q0, q1, T6, g6⟩
    have X6 := Two.grown X5 g6 hYR hXR
    clear T5 g6 X5
    have HX6 := hide X6
    clear X6
    go_wp2_with fail
    refine (pick_lit2 T6 (by omega) _ (by omega) (by omega) (by repeat (first | exact List.forall_mem_nil _ | refine List.forall_mem_cons.2 ⟨⟨_, rfl⟩, ?_⟩)) (by repeat (first | exact List.forall_mem_nil _ | refine List.forall_mem_cons.2 ⟨⟨_, rfl, by simp, by simp⟩, ?_⟩)) (by simp)).mono ?_
    rintro e w7 ⟨j, rfl, j0, j1, T7, g7, v, y, hm, hz, v0, v1, hn, hy⟩
    simp only [List.mem_cons, Value.int.injEq, true_and, List.not_mem_nil, or_false] at hm hn
    have X7 := Two.grown ((HX6.out.alloc _).alloc _) g7 hYR hXR
    have HX7 := hide X7
    obtain ⟨s0, s1, s2, s3, f0, f1⟩ := X7.cells
    have f2 := X7.2.1.frozen 1
    clear X7 T6 g7 HX6
    have hyb : 0 ≤ y ∧ y ≤ 65535 := by omega
    clear hn
    have hXlt := HX7.out.2.1.lt
    go_wp2_with fail
    have T8 := T7.set hw0X hXR (.int .i64 y) (a := ⟨w1.heap.size, 1, none⟩)
    have X8 := hide (HX7.out.setX y)
    clear T7 HX7 hz hy s0 s1 s2 s3 f0 f1 f2
    refine (odd_tp (by first | with_reducible assumption | exact Tp.alloc (by with_reducible assumption) _ | exact Tp.alloc (Tp.alloc (by with_reducible assumption) _) _ | exact Tp.drewN (by with_reducible assumption) _ | exact Tp.drew (by with_reducible assumption) | exact Tp.drawn (by with_reducible assumption) | exact Tp.alloc (Tp.drewN (by with_reducible assumption) _) _ | exact Tp.alloc (Tp.drew (by with_reducible assumption)) _ | exact Tp.alloc (Tp.alloc (Tp.alloc (by with_reducible assumption) _) _) _) (by omega) _ (by omega) (by omega)).mono ?_
    rintro e w3 ⟨bo, rfl, T3, g3⟩
    have X3 := X8.out
    clear T8
    have HS := hide (Two.grown X3 g3 hYR hXR)
    cases bo
    · obtain ⟨s0, s1, s2, s3, f0, f1⟩ := HS.out.cells
      go_wp2_with fail
      obtain ⟨c0, c1, c2⟩ := Two.ret (HS.out) x y
      exact bodyPost_ret (v := .agg #[.int .i64 x, .int .i64 y]) (by simp [results, Tryd.results45, go_sem, c0, c1, c2]) rfl ⟨_, _, rfl, by omega, by omega, by omega, by omega, ((T3.set hw0Y hYR _).set hw0Y hYR _).more (by omega)⟩
    · go_wp2_with fail
      refine (pick_tp (by first | with_reducible assumption | exact Tp.alloc (by with_reducible assumption) _ | exact Tp.alloc (Tp.alloc (by with_reducible assumption) _) _ | exact Tp.drewN (by with_reducible assumption) _ | exact Tp.drew (by with_reducible assumption) | exact Tp.drawn (by with_reducible assumption) | exact Tp.alloc (Tp.drewN (by with_reducible assumption) _) _ | exact Tp.alloc (Tp.drew (by with_reducible assumption)) _ | exact Tp.alloc (Tp.alloc (Tp.alloc (by with_reducible assumption) _) _) _) (by omega) _ (by omega) (by omega)).mono ?_
      rintro e w4 ⟨i, rfl, i0, i1, T4, g4⟩
      obtain ⟨y', z, y0, y1, z0, z1, hy, hz⟩ := lit2_at (n := 5) g4 T3.lt i0 i1 rfl (-1) 65536 (by repeat (first | exact List.forall_mem_nil _ | refine List.forall_mem_cons.2 ⟨⟨_, rfl, by omega, by omega⟩, ?_⟩))
      have HT := hide (Two.grown (HS.out.alloc _) g4 hYR hXR)
      obtain ⟨s0, s1, s2, s3, f0, f1⟩ := HT.out.cells
      clear g4
      go_wp2_with fail
      obtain ⟨c0, c1, c2⟩ := Two.ret (HT.out) y' z
      exact bodyPost_ret (v := .agg #[.int .i64 y', .int .i64 z]) (by simp [results, Tryd.results45, go_sem, c0, c1, c2]) rfl ⟨_, _, rfl, by omega, by omega, by omega, by omega, ((T4.set hw0Y hYR _).set hw0Y hYR _).more (by omega)⟩
end Go.Proofs.YtjnnjgogpapbhaaDoor.DCode
