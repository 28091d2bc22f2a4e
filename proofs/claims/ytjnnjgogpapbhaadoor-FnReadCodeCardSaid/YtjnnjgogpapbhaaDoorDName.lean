/- The draw of a name. -/
import Derived.Test.YtjnnjgogpapbhaaDoorDVar
namespace Go.Proofs.YtjnnjgogpapbhaaDoor.DName
set_option maxRecDepth 200000
open Go.ChangeShapes Go.WideShapes Go.ChangeAt Go.RowKit Kit DPick DVar
/-- A cell of a literal that was laid just before a number was drawn, told by what all its cells are. -/
theorem pick_litP {p : Value → Prop} {w0 w1 : World} {B R : Nat} {N : Int} {cs : Array Value} {t : TypeId} (h : Tp w0 w1 B R N) (hN : N ≤ 1099511627776) (n : Int) (hn : 1 ≤ n) (hn' : n ≤ 1099511627776) (hb : ∀ v ∈ cs.toList, p v) (hs : n ≤ cs.size) :
    Calls Tryd.prog 42 #[.pointer (some ⟨R, 0, none⟩), .int .i64 n] (w1.alloc (.cells cs t)) fun e w' => ∃ x : Int, e = .returned (.int .i64 x) ∧ 0 ≤ x ∧ x < n ∧ Tp w0 w' B R (N + 1) ∧ (w1.alloc (.cells cs t)).grownBy w' (some R) ∧
      ∃ v, p v ∧ w'.cell? ⟨w1.heap.size, x.toNat, none⟩ = some v := by
  refine (pick_tp (h.alloc (.cells cs t)) hN n hn hn').mono ?_
  rintro e w' ⟨x, he, x0, x1, T, g⟩
  have hx : Box w' w1.heap.size t cs := (Box.new w1 t cs).grown g (fun k hk => by injection hk with hk; have := h.lt; omega)
  have hi' : x.toNat < cs.size := by omega
  refine ⟨x, he, x0, x1, T, g, cs[x.toNat]'hi', hb _ (by simp), ?_⟩
  rw [hx.cell, Array.getElem?_eq_getElem hi']
theorem odd_zero {w : World} {R : Nat} : Calls Tryd.prog 46 #[.pointer (some ⟨R, 0, none⟩), .int .i64 0] w (Pure (.bool false) w) := by
  go_enter Tryd.func46, Tryd.ntmps46
  go_wp2_with fail
  go_ret
  exact ⟨rfl, rfl⟩
def IsName (v : Value) : Prop := ∃ s : ByteArray, v = .string s ∧ 0 < s.size ∧ s.size ≤ 9
def IsText (v : Value) : Prop := ∃ s : ByteArray, v = .string s ∧ s.size ≤ 9
def DrewText (w0 w : World) (B R : Nat) (N : Int) (lo : Nat) (e : Ending) (w' : World) : Prop := ∃ s : ByteArray, e = .returned (.string s) ∧ lo ≤ s.size ∧ s.size ≤ 9 ∧ Tp w0 w' B R N ∧ w.grownBy w' (some R)
theorem grown_lit {w w1 w2 : World} {o : Obj} {R : Nat} (g1 : w.grownBy w1 (some R)) (g2 : (w1.alloc o).grownBy w2 (some R)) : w.grownBy w2 (some R) := grown_trans (grown_alloc g1 o) g2
theorem name_any {w0 w : World} {B R : Nat} {N : Int} (T : Tp w0 w B R N) (hN : N ≤ 1000000) (n : Int) (hn : 0 ≤ n) (hn' : n ≤ 1000) :
    Calls Tryd.prog 49 #[.pointer (some ⟨R, 0, none⟩), .int .i64 n] w (DrewText w0 w B R (N + 2) 0) := by
  go_enter Tryd.func49, Tryd.ntmps49
  go_wp2_with fail
  refine (odd_tp (by first | with_reducible assumption | exact Tp.alloc (by with_reducible assumption) _ | exact Tp.alloc (Tp.alloc (by with_reducible assumption) _) _ | exact Tp.drewN (by with_reducible assumption) _ | exact Tp.drew (by with_reducible assumption) | exact Tp.drawn (by with_reducible assumption) | exact Tp.alloc (Tp.drewN (by with_reducible assumption) _) _ | exact Tp.alloc (Tp.drew (by with_reducible assumption)) _ | exact Tp.alloc (Tp.alloc (Tp.alloc (by with_reducible assumption) _) _) _) (by omega) _ (by omega) (by omega)).mono ?_
  rintro e w1 ⟨bo, rfl, T1, g1⟩
  clear T
  cases bo
  · go_wp2_with fail
    refine (pick_litP (p := IsText) T1 (by omega) _ (by omega) (by omega) (by repeat (first | exact List.forall_mem_nil _ | refine List.forall_mem_cons.2 ⟨⟨_, rfl, by decide⟩, ?_⟩)) (by simp)).mono ?_
    rintro e w2 ⟨x, rfl, x0, x1, T2, g2, v, ⟨s, rfl, s1⟩, hv⟩
    have HG := hide (grown_lit g1 g2)
    clear g1 g2 T1
    go_wp2_with fail
    go_ret
    exact ⟨s, rfl, Nat.zero_le _, s1, T2.more (by omega), HG.out⟩
  · go_wp2_with fail
    refine (pick_litP (p := IsText) T1 (by omega) _ (by omega) (by omega) (by repeat (first | exact List.forall_mem_nil _ | refine List.forall_mem_cons.2 ⟨⟨_, rfl, by decide⟩, ?_⟩)) (by simp)).mono ?_
    rintro e w2 ⟨x, rfl, x0, x1, T2, g2, v, ⟨s, rfl, s1⟩, hv⟩
    have HG := hide (grown_lit g1 g2)
    clear g1 g2 T1
    go_wp2_with fail
    go_ret
    exact ⟨s, rfl, Nat.zero_le _, s1, T2.more (by omega), HG.out⟩
theorem name_ok {w0 w : World} {B R : Nat} {N : Int} (T : Tp w0 w B R N) (hN : N ≤ 1000000) :
    Calls Tryd.prog 49 #[.pointer (some ⟨R, 0, none⟩), .int .i64 0] w (DrewText w0 w B R (N + 2) 1) := by
  go_enter Tryd.func49, Tryd.ntmps49
  go_wp2_with fail
  refine odd_zero.mono ?_
  rintro e w' ⟨rfl, rfl⟩
  go_wp2_with fail
  refine (pick_litP (p := IsName) T (by omega) _ (by omega) (by omega) (by repeat (first | exact List.forall_mem_nil _ | refine List.forall_mem_cons.2 ⟨⟨_, rfl, by decide, by decide⟩, ?_⟩)) (by simp)).mono ?_
  rintro e w2 ⟨x, rfl, x0, x1, T2, g2, v, ⟨s, rfl, s0, s1⟩, hv⟩
  have HG := hide (grown_lit (grown_refl w (some R)) g2)
  clear g2 T
  go_wp2_with fail
  go_ret
  exact ⟨s, rfl, s0, s1, T2.more (by omega), HG.out⟩
end Go.Proofs.YtjnnjgogpapbhaaDoor.DName
