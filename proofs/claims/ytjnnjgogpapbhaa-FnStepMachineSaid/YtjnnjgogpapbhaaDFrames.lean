/- The draw of frames. -/
import Derived.Test.YtjnnjgogpapbhaaDVar
import Derived.Test.YtjnnjgogpapbhaaCFrames
import Derived.Test.YtjnnjgogpapbhaaDCode
import Derived.Deep.RegionLaw
import Derived.Deep.RegionWith
import Derived.IntWalk
namespace Go.Proofs.Ytjnnjgogpapbhaa.DFrames
set_option maxRecDepth 200000
open Go.ChangeShapes Go.WideShapes Go.ChangeAt Go.RowKit Kit CFrames DPick DVar DCode
/-- A frame as the draws make it: its numbers are small. -/
def SmallF (z : CFrames.D) : Prop := -1 ≤ z.1 ∧ z.1 ≤ 100000 ∧ -1 ≤ z.2.1 ∧ z.2.1 ≤ 100000 ∧ -1 ≤ z.2.2 ∧ z.2.2 ≤ 100000
/-- A struct of three ints out of a literal that was laid just before a number was drawn. -/
theorem lit3_at {w1 w2 : World} {cs : Array Value} {t : TypeId} {R n : Nat} (g : (w1.alloc (.cells cs t)).grownBy w2 (some R)) (hR : R < w1.heap.size) {i : Int} (h0 : 0 ≤ i) (h1 : i < n) (hn : cs.size = n * 3) (lo hi : Int) (hb : ∀ v ∈ cs.toList, ∃ z, v = Value.int .i64 z ∧ lo ≤ z ∧ z ≤ hi) :
    ∃ x y z, lo ≤ x ∧ x ≤ hi ∧ lo ≤ y ∧ y ≤ hi ∧ lo ≤ z ∧ z ≤ hi ∧ w2.cell? ⟨w1.heap.size, i.toNat * 3, none⟩ = some (.int .i64 x) ∧ w2.cell? ⟨w1.heap.size, i.toNat * 3 + 1, none⟩ = some (.int .i64 y) ∧ w2.cell? ⟨w1.heap.size, i.toNat * 3 + 2, none⟩ = some (.int .i64 z) := by
  have hx : Box w2 w1.heap.size t cs := (Box.new w1 t cs).grown g (fun k hk => by injection hk with hk; omega)
  obtain ⟨x, hx', x0, x1⟩ := hb (cs[i.toNat * 3]'(by omega)) (by simp)
  obtain ⟨y, hy, y0, y1⟩ := hb (cs[i.toNat * 3 + 1]'(by omega)) (by simp)
  obtain ⟨z, hz, z0, z1⟩ := hb (cs[i.toNat * 3 + 2]'(by omega)) (by simp)
  refine ⟨x, y, z, x0, x1, y0, y1, z0, z1, ?_, ?_, ?_⟩
  · rw [hx.cell, Array.getElem?_eq_getElem (by omega), hx']
  · rw [hx.cell, Array.getElem?_eq_getElem (by omega), hy]
  · rw [hx.cell, Array.getElem?_eq_getElem (by omega), hz]
/-- The numbers of frames that are wrong. -/
def szV (x : Int) : Int := if x = 0 then -1 else 41
theorem szV_bd (x : Int) : -1 ≤ szV x ∧ szV x ≤ 41 := by unfold szV; split <;> omega
theorem szV_at (x : Int) (h0 : 0 ≤ x) (h1 : x < 2) : (#[.int .i64 (-1), .int .i64 41] : Array Value)[x.toNat]? = some (.int .i64 (szV x)) := by
  have : x = 0 ∨ x = 1 := by omega
  rcases this with rfl | rfl <;> rfl
theorem szV_get (x : Int) (h0 : 0 ≤ x) (h1 : x < 2) : ∀ h, ([.int .i64 (-1), .int .i64 41] : List Value)[x.toNat]'h = .int .i64 (szV x) := by
  have : x = 0 ∨ x = 1 := by omega
  rcases this with rfl | rfl <;> exact fun _ => rfl
def frV (a z v : Int) : CFrames.D := if v = 0 then (a, a, 0) else if v = 1 then (a, a + 1, z) else if v = 2 then (a, 60001, 0) else (-1, 1, 0)
theorem frV_small (a z v : Int) (h0 : 0 ≤ a) (h1 : a ≤ 300) (z0 : -1 ≤ z) (z1 : z ≤ 41) : SmallF (frV a z v) := by
  unfold frV
  split
  · exact ⟨by dsimp only; omega, by dsimp only; omega, by dsimp only; omega, by dsimp only; omega, by dsimp only; omega, by dsimp only; omega⟩
  split
  · exact ⟨by dsimp only; omega, by dsimp only; omega, by dsimp only; omega, by dsimp only; omega, by dsimp only; omega, by dsimp only; omega⟩
  split
  · exact ⟨by dsimp only; omega, by dsimp only; omega, by dsimp only; omega, by dsimp only; omega, by dsimp only; omega, by dsimp only; omega⟩
  · exact ⟨by dsimp only; omega, by dsimp only; omega, by dsimp only; omega, by dsimp only; omega, by dsimp only; omega, by dsimp only; omega⟩
theorem frV_at (a z v : Int) (h0 : 0 ≤ v) (h1 : v < 4) :
    (#[.int .i64 a, .int .i64 a, .int .i64 0, .int .i64 a, .int .i64 (a + 1), .int .i64 z, .int .i64 a, .int .i64 60001, .int .i64 0, .int .i64 (-1), .int .i64 1, .int .i64 0] : Array Value)[v.toNat * 3]? = some (.int .i64 (frV a z v).1) ∧
    (#[.int .i64 a, .int .i64 a, .int .i64 0, .int .i64 a, .int .i64 (a + 1), .int .i64 z, .int .i64 a, .int .i64 60001, .int .i64 0, .int .i64 (-1), .int .i64 1, .int .i64 0] : Array Value)[v.toNat * 3 + 1]? = some (.int .i64 (frV a z v).2.1) ∧
    (#[.int .i64 a, .int .i64 a, .int .i64 0, .int .i64 a, .int .i64 (a + 1), .int .i64 z, .int .i64 a, .int .i64 60001, .int .i64 0, .int .i64 (-1), .int .i64 1, .int .i64 0] : Array Value)[v.toNat * 3 + 2]? = some (.int .i64 (frV a z v).2.2) := by
  have : v = 0 ∨ v = 1 ∨ v = 2 ∨ v = 3 := by omega
  rcases this with rfl | rfl | rfl | rfl <;> exact ⟨rfl, rfl, rfl⟩
section
variable {w w1 w2 : World} {cs : Array Value} {t : TypeId} {R i : Nat} {v : Value} {o : Obj}
theorem pick_cell (g : (w1.alloc (.cells cs t)).grownBy w2 (some R)) (hR : R < w1.heap.size) (h : cs[i]? = some v) : w2.cell? ⟨w1.heap.size, i, none⟩ = some v :=
  (((Box.new w1 t cs).grown g (fun k hk => by injection hk with hk; omega)).cell i).trans h
theorem grown_undrew {r : Option Nat} (g : w1.drew.grownBy w2 r) : w1.grownBy w2 r := ⟨g.os, g.tape, g.output, g.size, g.block⟩
theorem pick_cellD (g : (w1.alloc (.cells cs t)).drew.grownBy w2 (some R)) (hR : R < w1.heap.size) (h : cs[i]? = some v) : w2.cell? ⟨w1.heap.size, i, none⟩ = some v := pick_cell (grown_undrew g) hR h
theorem pick_cell2 (g : ((w.alloc o).alloc (.cells cs t)).grownBy w2 (some R)) (hR : R < w.heap.size) (h : cs[i]? = some v) : w2.cell? ⟨w.heap.size + 1, i, none⟩ = some v := by
  have := pick_cell g (by simp; omega) h
  simpa using this
end
theorem own_lit3 (W : World) (a b c : Value) (t : TypeId) (k : Nat) (hk : k = W.heap.size) : (W.alloc (.cells #[a, b, c] t)).ownsRow W.heap.size t 3 (.slice (some ⟨k, 0, none⟩) 1 1) 1 [a, b, c] := by
  subst hk
  exact World.ownsRow_lit (base := W.heap.size) (e := t) (size := 3) W #[a, b, c] 1 (Nat.le_refl _) (by unfold maxLen; omega) rfl
theorem one3i {x y z : Int} : ∀ u ∈ [Value.int .i64 x, .int .i64 y, .int .i64 z], u.oneCell' = true := by
  intro u hu
  simp only [List.mem_cons, List.not_mem_nil, or_false] at hu
  rcases hu with rfl | rfl | rfl <;> rfl
theorem cells_pick {w w' : World} {R : Nat} (g : w.grownBy w' (some R)) : ∀ b o, b < w.heap.size → b ≠ R → w'.cell? ⟨b, o, none⟩ = w.cell? ⟨b, o, none⟩ := fun b _ hb hn => grown_cell g hb (fun k hk => by injection hk with hk; show k ≠ b; omega)
end Go.Proofs.Ytjnnjgogpapbhaa.DFrames
