/- Contracts of one instruction of a machine: the program's method do. -/
import Derived.Test.YtjnnjgogpapbhaaCStep
import Derived.BigRegion
namespace Go.Proofs.Ytjnnjgogpapbhaa.CDo
set_option maxRecDepth 200000
open Go.ChangeShapes Go.WideShapes Go.ChangeAt Go.RowKit Kit CCode CMachine CMachines CInts CPutCode CStep
/-- What an instruction makes of a machine whose place is already behind it. -/
def doM (n : Int) (st ca : List Int) (d a : Int) : Option (Int × List Int × List Int) :=
  if d = 1 then (if st.length < 8 then some (n, st ++ [a], ca) else none)
  else if d = 2 then (if 2 ≤ st.length then some (n, st.take (st.length - 2) ++ [(st.getD (st.length - 2) 0 + st.getD (st.length - 1) 0) % 65536], ca) else none)
  else if d = 3 then (if 2 ≤ st.length then some (n, st.take (st.length - 2) ++ [(st.getD (st.length - 2) 0 + (65536 - st.getD (st.length - 1) 0)) % 65536], ca) else none)
  else if d = 4 then some (a, st, ca)
  else if d = 5 then (if 1 ≤ st.length then some (if st.getD (st.length - 1) 0 = 0 then a else n, st.take (st.length - 1), ca) else none)
  else if d = 6 then (if ca.length < 8 then some (a, st, ca ++ [n]) else none)
  else (if 1 ≤ ca.length then some (ca.getD (ca.length - 1) 0, st, ca.take (ca.length - 1)) else none)
/-- A machine in a variable, with rows of its own. -/
def MM (w : World) (base X : Nat) (n : Int) (S : Option Addr) (cs : Nat) (st : List Int) (C : Option Addr) (cc : Nat) (ca : List Int) : Prop :=
  Box w X 25 #[.int .i64 n, .slice S st.length cs, .slice C ca.length cc] ∧ Rows2 w base S cs st C cc ca ∧ base ≤ X
def DoPost (w : World) (base X : Nat) (r : Option (Int × List Int × List Int)) (e : Ending) (w' : World) : Prop :=
  e = .returned (.bool r.isSome) ∧ Below base w w' ∧ ∀ n st ca, r = some (n, st, ca) → ∃ S C cs cc, MM w' base X n S cs st C cc ca
section
variable {w w' : World} {base X : Nat} {n : Int} {S C : Option Addr} {cs cc : Nat} {st ca : List Int}
theorem Rows2.call (h : Rows2 w base S cs st C cc ca) (hb : Below w.heap.size w w') : Rows2 w' base S cs st C cc ca := ⟨h.1.call hb, h.2.1.call hb, h.2.2⟩
theorem MM.call (h : MM w base X n S cs st C cc ca) (hb : Below w.heap.size w w') : MM w' base X n S cs st C cc ca := ⟨h.1.call hb, Rows2.call h.2.1 hb, h.2.2⟩
theorem MM.cells (h : MM w base X n S cs st C cc ca) : w.cell? ⟨X, 0, none⟩ = some (.int .i64 n) ∧ w.cell? ⟨X, 1, none⟩ = some (.slice S st.length cs) ∧ w.cell? ⟨X, 2, none⟩ = some (.slice C ca.length cc) ∧ w.frozen? ⟨X, 0, none⟩ = false ∧ w.frozen? ⟨X, 1, none⟩ = false ∧ w.frozen? ⟨X, 2, none⟩ = false :=
  ⟨h.1.cell 0, h.1.cell 1, h.1.cell 2, h.1.frozen 0, h.1.frozen 1, h.1.frozen 2⟩
theorem MM.at_ (h : MM w base X n S cs st C cc ca) (m : Int) : MM (w.setCell ⟨X, 0, none⟩ (.int .i64 m)) base X m S cs st C cc ca :=
  ⟨h.1.set 0 _, ⟨h.2.1.1.set (a := ⟨X, 0, none⟩) (h.2.1.1.box h.1 (by decide)) _, h.2.1.2.1.set (a := ⟨X, 0, none⟩) (h.2.1.2.1.box h.1 (by decide)) _, h.2.1.2.2⟩, h.2.2⟩
theorem MM.mkS {V : Value} (hb : Box w X 25 #[.int .i64 n, V, .slice C ca.length cc]) (hX : base ≤ X) (hC : Row w base 3 1 C ca.length cc (ints .i64 ca)) {A : Option Addr} {m c : Nat} {xs : List Int} (hm : m = xs.length) (hr : Row w base 3 1 A m c (ints .i64 xs)) (hd : Apart A c C cc) : MM (w.setCell ⟨X, 1, none⟩ (.slice A m c)) base X n A c xs C cc ca := by
  subst hm
  exact ⟨hb.set 1 _, ⟨hr.set (a := ⟨X, 1, none⟩) (hr.box hb (by decide)) _, hC.set (a := ⟨X, 1, none⟩) (hC.box hb (by decide)) _, hd⟩, hX⟩
theorem MM.mkC {V : Value} (hb : Box w X 25 #[.int .i64 n, .slice S st.length cs, V]) (hX : base ≤ X) (hS : Row w base 3 1 S st.length cs (ints .i64 st)) {A : Option Addr} {m c : Nat} {xs : List Int} (hm : m = xs.length) (hr : Row w base 3 1 A m c (ints .i64 xs)) (hd : Apart S cs A c) : MM (w.setCell ⟨X, 2, none⟩ (.slice A m c)) base X n S cs st A c xs := by
  subst hm
  exact ⟨hb.set 2 _, ⟨hS.set (a := ⟨X, 2, none⟩) (hS.box hb (by decide)) _, hr.set (a := ⟨X, 2, none⟩) (hr.box hb (by decide)) _, hd⟩, hX⟩
/-- Behind an append to the stack. -/
theorem MM.grownS (h : MM w base X n S cs st C cc ca) (g : w.grownBy w' (blk S cs)) : Box w' X 25 #[.int .i64 n, .slice S st.length cs, .slice C ca.length cc] ∧ Row w' base 3 1 C ca.length cc (ints .i64 ca) :=
  ⟨h.1.grown g (fun k hk => h.2.1.1.box h.1 (by decide) k hk), h.2.1.2.1.grown g (fun k hk hk' => h.2.1.2.2 k hk' hk)⟩
theorem MM.grownC (h : MM w base X n S cs st C cc ca) (g : w.grownBy w' (blk C cc)) : Box w' X 25 #[.int .i64 n, .slice S st.length cs, .slice C ca.length cc] ∧ Row w' base 3 1 S st.length cs (ints .i64 st) :=
  ⟨h.1.grown g (fun k hk => h.2.1.2.1.box h.1 (by decide) k hk), h.2.1.1.grown g (fun k hk hk' => h.2.1.2.2 k hk hk')⟩
end
theorem apart_app {w : World} {A A' C : Option Addr} {c c' cc : Nat} (h : Apart A c C cc) (hk : ∀ k, blk A' c' = some k → blk A c = some k ∨ w.heap.size ≤ k) (hC : ∀ k, blk C cc = some k → k < w.heap.size) : Apart A' c' C cc := by
  intro k h1 h2
  rcases hk k h1 with h3 | h3
  · exact h k h3 h2
  · have := hC k h2
    omega
set_option maxHeartbeats 2000000 in
theorem do_push (w : World) (base X : Nat) (n a : Int) (S C : Option Addr) (cs cc : Nat) (st ca : List Int) (h : MM w base X n S cs st C cc ca) (l1 : st.length ≤ 8) (l2 : ca.length ≤ 8) (hbw : base ≤ w.heap.size) :
    Calls Try.prog 58 #[.pointer (some ⟨X, 0, none⟩), .agg #[.int .i64 1, .int .i64 a]] w (DoPost w base X (doM n st ca 1 a)) := by
  obtain ⟨i0, hi, hz0, hz1, hz2⟩ := info_parts info64
  have b0 : Below w.heap.size w (w.alloc (.cells #[.int .i64 1, .int .i64 a] 78)) := (by repeat (first | exact Below.refl _ _ | with_reducible assumption | (refine Below.drew ?_) | (refine Below.drewN ?_ _) | (refine Below.alloc ?_ (by simp; try omega) _) | (refine Below.setCell ?_ (by simp; try omega) _)))
  have h0 := h.call b0
  have HX := Box.new w 78 #[.int .i64 1, .int .i64 a]
  go_enter Try.func58, Try.ntmps58
  go_wp2_with fail
  have HB := hide (show Below base w (w.alloc (.cells #[.int .i64 1, .int .i64 a] 78)) from b0.mono hbw)
  clear b0 h
  obtain ⟨m0, m1, m2, f0, f1, f2⟩ := h0.cells
  go_quiet (fail)
  have h1 := h0.call (w' := (w.alloc (.cells #[.int .i64 1, .int .i64 a] 78)).drewN nq) (Kit.Below.drewN (Below.refl _ _) nq)
  have HX := HX.drewN nq
  have HB := hide (Kit.Below.drewN HB.out nq)
  have hsz : base ≤ ((w.alloc (.cells #[.int .i64 1, .int .i64 a] 78)).drewN nq).heap.size := Nat.le_trans hbw HB.out.size
  clear m0 m1 m2 f0 f1 f2 h0
  generalize ((w.alloc (.cells #[.int .i64 1, .int .i64 a] 78)).drewN nq) = w1 at *
  obtain ⟨m0, m1, m2, f0, f1, f2⟩ := h1.cells
  have x0 := HX.cell 0
  have x1 := HX.cell 1
  simp only [List.getElem?_toArray, List.getElem?_cons_zero, List.getElem?_cons_succ] at x0 x1
  have HM := hide h1
  have hX1 := h1.1.lt
  have hX2 := HX.lt
  have HXX := hide HX
  clear h1 HX
  go_wp2_with fail
  go_region_law ((refine step_app (by rfl) _ _ 23 (by rfl) 3 i0 (.int .i64 0) 1 8 Try.underlying23 hi hz0 hz1 hz2 rfl (by decide) base S st.length cs (ints .i64 st) (by rfl) (by exact HM.out.2.1.1.call (by (repeat (first | with_reducible assumption | with_reducible exact Below.refl _ _ | with_reducible apply below_al | with_reducible apply below_dr | with_reducible apply below_dn)); done)) (by exact Nat.le_trans hsz (Below.size (B := w1.heap.size) (w := w1) (by (repeat (first | with_reducible assumption | with_reducible exact Below.refl _ _ | with_reducible apply below_al | with_reducible apply below_dr | with_reducible apply below_dn)); done))) _ 1 1 [.int .i64 a] (by rfl) (by exact rd_lit w1 #[.int .i64 a] 3 _ rfl) (by simp) (fun h => by cases h) oneI1 (by unfold maxLen; omega) (by omega) ?_; intro A2 n2 c2 w2 hn2 o2 g2 k2; have hd2 := apart_app HM.out.2.1.2.2 k2 (fun k hk => Nat.lt_of_lt_of_le (HM.out.2.1.2.1.lt k hk).2 (Below.size (B := w1.heap.size) (w := w1) (by (repeat (first | with_reducible assumption | with_reducible exact Below.refl _ _ | with_reducible apply below_al | with_reducible apply below_dr | with_reducible apply below_dn)); done))); have G2 := MM.grownS (MM.call HM.out (by (repeat (first | with_reducible assumption | with_reducible exact Below.refl _ _ | with_reducible apply below_al | with_reducible apply below_dr | with_reducible apply below_dn)); done)) g2; have y1 := G2.1.cell 1; have z1 := G2.1.frozen 1; simp only [List.getElem?_toArray, List.getElem?_cons_zero, List.getElem?_cons_succ] at y1; have b2 := below_step (base := base) (w1 := w1) (by (repeat (first | with_reducible assumption | with_reducible exact Below.refl _ _ | with_reducible apply below_al | with_reducible apply below_dr | with_reducible apply below_dn)); done) g2 hsz (fun k hk => (HM.out.2.1.1.lt k hk).1); have H2 := hide (And.intro hn2 (And.intro o2 (And.intro g2 (And.intro hd2 (And.intro G2 b2))))); clear hn2 o2 g2 k2 G2 b2 hd2))
  all_goals
    obtain ⟨hn2, o2, g2, hd2, G2, b2⟩ := H2.out
    subst hn2
    have M2 := MM.mkS G2.1 HM.out.2.2 G2.2 (A := A2) (m := st.length + 1) (c := c2) (xs := st ++ [a]) (by simp) (by simpa [ints] using o2) hd2
    have HB3 := hide (HB.out.trans (b2.setCell (p := ⟨X, 1, none⟩) HM.out.2.2 (.slice A2 (st.length + 1) c2)))
    clear H2 o2 g2 G2 b2 hd2 y1 z1
    generalize (w2.setCell ⟨X, 1, none⟩ (.slice A2 (st.length + 1) c2)) = w3 at *
    have y1 := M2.cells.2.1
    have HM3 := hide M2
    clear M2
    try simp only [List.getElem_toArray, List.getElem_cons_succ, List.getElem_cons_zero, Act.put, List.setIfInBounds_toArray, List.set_cons_zero, List.set_cons_succ]
    go_wp2_with fail
    go_ret
    have E : doM n st ca 1 a = if st.length < 8 then some (n, st ++ [a], ca) else none := rfl
    refine ⟨ret_bool ?_, HB3.out, ?_⟩
    · rw [E]
      split <;> simp <;> omega
    · intro n' st' ca' hr
      rw [E] at hr
      split at hr
      · simp only [Option.some.injEq, Prod.mk.injEq] at hr
        obtain ⟨rfl, rfl, rfl⟩ := hr
        exact ⟨_, _, _, _, HM3.out⟩
      · cases hr
end Go.Proofs.Ytjnnjgogpapbhaa.CDo
