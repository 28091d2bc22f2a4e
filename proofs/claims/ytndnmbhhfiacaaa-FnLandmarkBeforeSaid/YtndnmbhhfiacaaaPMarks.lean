/- Plain laws of landmarks. -/
import Derived.Test.YtndnmbhhfiacaaaCLandmarkBefore
namespace Go.Proofs.Ytndnmbhhfiacaaa.PMarks
set_option maxRecDepth 200000
open Go.ChangeShapes Go.WideShapes Go.ChangeAt Go.RowKit Kit CLandmarks CLandmarkBefore
theorem best_foldl (a : Int) : ∀ (zs : List CLandmarks.D) (b : Option CLandmarks.D), (∀ m, b = some m → m.2 ≤ a) →
    (∀ m, zs.foldl (better a) b = some m → m.2 ≤ a) ∧ (∀ y, b = some y → ∃ m, zs.foldl (better a) b = some m ∧ y.2 ≤ m.2) ∧ (∀ z ∈ zs, z.2 ≤ a → ∃ m, zs.foldl (better a) b = some m ∧ z.2 ≤ m.2)
  | [], b, h => ⟨h, fun y hy => ⟨y, hy, Int.le_refl _⟩, fun z hz => by simp at hz⟩
  | z :: r, b, h => by
    simp only [List.foldl_cons]
    by_cases hc : z.2 ≤ a ∧ (∀ y, b = some y → y.2 ≤ z.2)
    · have e : better a b z = some z := if_pos hc
      rw [e]
      obtain ⟨h1, h2, h3⟩ := best_foldl a r (some z) (fun m hm => by injection hm with hm; rw [← hm]; exact hc.1)
      obtain ⟨m, hm, hzm⟩ := h2 z rfl
      refine ⟨h1, fun y hy => ⟨m, hm, ?_⟩, fun x hx hxa => ?_⟩
      · have := hc.2 y hy
        omega
      · rcases List.mem_cons.1 hx with rfl | hx
        · exact ⟨m, hm, hzm⟩
        · exact h3 x hx hxa
    · have e : better a b z = b := if_neg hc
      rw [e]
      obtain ⟨h1, h2, h3⟩ := best_foldl a r b h
      refine ⟨h1, h2, fun x hx hxa => ?_⟩
      rcases List.mem_cons.1 hx with rfl | hx
      · have hy : ∃ y, b = some y ∧ x.2 < y.2 := by
          apply Classical.byContradiction
          intro hn
          refine hc ⟨hxa, fun y hy => ?_⟩
          apply Classical.byContradiction
          intro hl
          exact hn ⟨y, hy, by omega⟩
        obtain ⟨y, hy, hl⟩ := hy
        obtain ⟨m, hm, hym⟩ := h2 y hy
        exact ⟨m, hm, by omega⟩
      · exact h3 x hx hxa
theorem best_le {zs : List CLandmarks.D} {a : Int} {m : CLandmarks.D} (h : bestL zs a = some m) : m.2 ≤ a :=
  (best_foldl a zs none (fun m hm => by cases hm)).1 m h
theorem best_most {zs : List CLandmarks.D} {a : Int} {z : CLandmarks.D} (hz : z ∈ zs) (h : z.2 ≤ a) : ∃ m, bestL zs a = some m ∧ z.2 ≤ m.2 :=
  (best_foldl a zs none (fun m hm => by cases hm)).2.2 z hz h
theorem best_mem {zs : List CLandmarks.D} {a : Int} {m : CLandmarks.D} (h : bestL zs a = some m) : m ∈ zs := by
  have key : ∀ (zs : List CLandmarks.D) (b : Option CLandmarks.D), zs.foldl (better a) b = some m → m ∈ zs ∨ b = some m := by
    intro zs
    induction zs with
    | nil => intro b hb; exact .inr hb
    | cons z r ih =>
      intro b hb
      rw [List.foldl_cons] at hb
      rcases ih _ hb with h1 | h1
      · exact .inl (by simp [h1])
      · unfold better at h1
        split at h1
        · injection h1 with h1
          exact .inl (by simp [h1])
        · exact .inr h1
  rcases key zs none h with h1 | h1
  · exact h1
  · cases h1
end Go.Proofs.Ytndnmbhhfiacaaa.PMarks
