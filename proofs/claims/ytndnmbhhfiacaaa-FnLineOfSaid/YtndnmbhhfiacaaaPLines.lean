/- Plain laws of rows and lines. -/
import Derived.Test.YtndnmbhhfiacaaaCPutRows
namespace Go.Proofs.Ytndnmbhhfiacaaa.PLines
set_option maxRecDepth 200000
open Go.ChangeShapes Go.WideShapes Go.ChangeAt Go.RowKit Kit CCode CRows CRowsValid CPutRows
theorem rows_order {zs : List CRows.D} (h : rowsOk zs = true) : ∀ {k j : Nat} (hk : k < zs.length) (hj : j < k), (zs[j]'(by omega)).1 < zs[k].1
  | 0, _, _, hj => by omega
  | k + 1, j, hk, hj => by
    obtain ⟨_, _, _, _, h1⟩ := rowsOk_at h hk
    have h1 := h1.resolve_left (by omega)
    rw [Nat.add_sub_cancel, List.getD_eq_getElem?_getD, List.getElem?_eq_getElem (by omega)] at h1
    simp only [Option.getD_some] at h1
    by_cases e : j = k
    · subst e; exact h1
    · have h2 := rows_order h (k := k) (j := j) (by omega) (by omega)
      omega
theorem foldl_keep (a : Int) : ∀ (r : List CRows.D) (l : Int), (∀ z ∈ r, ¬ z.1 ≤ a) → r.foldl (fun l r => if r.1 ≤ a then r.2 else l) l = l
  | [], l, _ => rfl
  | z :: r, l, h => by
    rw [List.foldl_cons, if_neg (h z (by simp))]
    exact foldl_keep a r l fun x hx => h x (by simp [hx])
theorem lineOf_in {zs : List CRows.D} (h : rowsOk zs = true) {k : Nat} (hk : k < zs.length) {a : Int} (h0 : zs[k].1 ≤ a) (h1 : ∀ hj : k + 1 < zs.length, a < zs[k + 1].1) : lineOf zs a = zs[k].2 := by
  rw [lineOf, if_pos h, lineAt]
  have e : zs = zs.take k ++ zs[k] :: zs.drop (k + 1) := by rw [← List.drop_eq_getElem_cons hk, List.take_append_drop]
  have hd : ∀ z ∈ zs.drop (k + 1), ¬ z.1 ≤ a := fun z hz => by
    obtain ⟨j, hj, rfl⟩ := List.mem_iff_getElem.1 hz
    simp only [List.length_drop] at hj
    simp only [List.getElem_drop]
    have := h1 (by omega)
    cases j with
    | zero => simp only [Nat.add_zero]; omega
    | succ j =>
      have := rows_order h (k := k + 1 + (j + 1)) (j := k + 1) (by omega) (by omega)
      omega
  generalize hz : zs[k] = z at *
  rw [e, List.foldl_append, List.foldl_cons, if_pos h0, foldl_keep a _ _ hd]
theorem lineOf_at {zs : List CRows.D} (h : rowsOk zs = true) {k : Nat} (hk : k < zs.length) : lineOf zs zs[k].1 = zs[k].2 :=
  lineOf_in h hk (Int.le_refl _) fun hj => rows_order h hj (by omega)
theorem lineOf_before {zs : List CRows.D} (h : rowsOk zs = true) {k : Nat} (hk : k + 1 < zs.length) : lineOf zs (zs[k + 1].1 - 1) = zs[k].2 :=
  lineOf_in h (by omega) (by have := rows_order h hk (j := k) (by omega); omega) fun hj => by omega
theorem foldl_nonneg (a : Int) : ∀ (r : List CRows.D) (l : Int), 0 ≤ l → (∀ z ∈ r, 0 ≤ z.2) → 0 ≤ r.foldl (fun l r => if r.1 ≤ a then r.2 else l) l
  | [], l, h, _ => h
  | z :: r, l, h, hz => by
    rw [List.foldl_cons]
    refine foldl_nonneg a r _ ?_ fun x hx => hz x (by simp [hx])
    have := hz z (by simp)
    split <;> omega
theorem lineOf_nonneg (zs : List CRows.D) (a : Int) : 0 ≤ lineOf zs a := by
  unfold lineOf
  split
  · rename_i h
    refine foldl_nonneg a zs 0 (by omega) fun z hz => ?_
    obtain ⟨j, hj, rfl⟩ := List.mem_iff_getElem.1 hz
    have := rowsOk_at h hj
    omega
  · omega
end Go.Proofs.Ytndnmbhhfiacaaa.PLines
