/- Plain mathematics of sums: a changed byte changes the sum. -/
import Derived.Test.YtndnmbhhfiacaaaCSumOf
namespace Go.Proofs.Ytndnmbhhfiacaaa.PSums
set_option maxRecDepth 200000
open Go.ChangeShapes Go.WideShapes Go.ChangeAt Go.RowKit Kit CSumOf
theorem sums_fst : ∀ (l : List Int) (a b : Int), 0 ≤ a → a ≤ 250 → (sums l (a, b)).1 = (a + l.sum) % 251
  | [], a, b, h0, h1 => by simp only [sums, List.sum_nil]; omega
  | x :: r, a, b, h0, h1 => by
    rw [sums, sums_fst r _ _ (by omega) (by omega), List.sum_cons]
    omega
theorem sumA_eq (l : List Int) : sumA l = (1 + l.sum) % 251 := sums_fst l 1 0 (by omega) (by omega)
theorem sum_set : ∀ (l : List Int) (k : Nat) (y : Int) (h : k < l.length), (l.set k y).sum = l.sum - l[k] + y
  | x :: r, 0, y, h => by simp; omega
  | x :: r, k + 1, y, h => by
    simp only [List.set_cons_succ, List.sum_cons, List.getElem_cons_succ]
    rw [sum_set r k y (by simpa using h)]
    omega
theorem sum_changed (l : List Int) (k : Nat) (y : Int) (h : k < l.length) (hy : y = l[k] + 1 ∨ y = l[k] - 1) : sumOf (l.set k y) ≠ sumOf l := by
  intro e
  have h1 := sum_bd l
  have h2 := sum_bd (l.set k y)
  unfold sumOf at e
  have e1 : sumA (l.set k y) = sumA l := by omega
  rw [sumA_eq, sumA_eq, sum_set l k y h] at e1
  omega
theorem sumOf_bd (l : List Int) : 0 ≤ sumOf l ∧ sumOf l ≤ 64250 := by
  have := sum_bd l
  unfold sumOf
  omega
end Go.Proofs.Ytndnmbhhfiacaaa.PSums
