/- Plain laws of frames. -/
import Derived.Test.YtndnmbhhfiacaaaCFramesValid
namespace Go.Proofs.Ytndnmbhhfiacaaa.PFrames
set_option maxRecDepth 200000
open Go.ChangeShapes Go.WideShapes Go.ChangeAt Go.RowKit Kit CCode CFrames CFramesValid
theorem ok_at {zs : List CFrames.D} (h : framesOk zs = true) {k : Nat} (hk : k < zs.length) : okF (endF zs k) zs[k] = true := by
  unfold framesOk at h
  rw [Bool.and_eq_true, List.all_eq_true] at h
  rw [← frameOk_at hk]
  exact h.1 k (by simpa using hk)
theorem ok_len {zs : List CFrames.D} (h : framesOk zs = true) : zs.length ≤ 8 := by
  unfold framesOk at h
  rw [Bool.and_eq_true] at h
  exact of_decide_eq_true h.2
theorem ok_tail {y : CFrames.D} {r : List CFrames.D} (h : framesOk (y :: r) = true) : framesOk r = true := by
  have hl := ok_len h
  simp only [List.length_cons] at hl
  rw [framesOk_all (fun j hj => ?_)]
  · exact decide_eq_true (by omega)
  · have h0 := ok_at h (k := 0) (by simp)
    have h1 := ok_at h (k := j + 1) (by simpa using hj)
    rw [endF_succ (by simp; omega)] at h1
    rw [frameOk_at hj]
    simp only [okF, decide_eq_true_eq, List.getElem_cons_succ, List.getElem_cons_zero] at h0 h1 ⊢
    cases j with
    | zero =>
      have e0 : ∀ l : List CFrames.D, endF l 0 = 0 := fun l => rfl
      rw [e0] at h0 ⊢
      simp only [List.getElem_cons_zero] at h1
      omega
    | succ j =>
      rw [endF_succ (by omega)]
      simpa using h1
theorem ok_twice {y : CFrames.D} {r : List CFrames.D} : framesOk (y :: y :: r) = false := by
  refine framesOk_no (k := 1) (by simp) ?_
  rw [frameOk_at (by simp), endF_succ (k := 0) (by simp)]
  simp only [okF, List.getElem_cons_succ, List.getElem_cons_zero, decide_eq_false_iff_not]
  omega
theorem ok_z {zs : List CFrames.D} (h : framesOk zs = true) {k : Nat} (hk : k < zs.length) : 0 ≤ zs[k].1 ∧ zs[k].1 < zs[k].2.1 ∧ zs[k].2.1 ≤ 60000 ∧ 0 ≤ zs[k].2.2 ∧ zs[k].2.2 ≤ 40 := by
  have h1 := ok_at h hk
  have h0 := end_nonneg (zs := zs) (k := k) (by omega) fun j hj => by rw [frameOk_at (by omega)]; exact ok_at h (by omega)
  simp only [okF, decide_eq_true_eq] at h1
  omega
theorem ok_order {zs : List CFrames.D} (h : framesOk zs = true) : ∀ {k j : Nat} (hk : k < zs.length) (hj : j < k), (zs[j]'(by omega)).2.1 ≤ zs[k].1
  | 0, _, _, hj => by omega
  | k + 1, j, hk, hj => by
    have h1 := ok_at h hk
    rw [endF_succ (by omega)] at h1
    simp only [okF, decide_eq_true_eq] at h1
    by_cases e : j = k
    · subst e; omega
    · have h2 := ok_order h (k := k) (j := j) (by omega) (by omega)
      have h3 := ok_z h (k := k) (by omega)
      omega
theorem frameOf_in {zs : List CFrames.D} (h : framesOk zs = true) {k : Nat} (hk : k < zs.length) {a : Int} (h0 : zs[k].1 ≤ a) (h1 : a < zs[k].2.1) : frameOf zs a = k := by
  rw [frameOf, h, if_pos rfl]
  refine frameIx_hit hk (by simp [hitF, h0, h1]) fun z hz => ?_
  obtain ⟨j, hj, rfl⟩ := List.mem_iff_getElem.1 hz
  simp only [List.length_take] at hj
  have := ok_order h hk (j := j) (by omega)
  simp only [List.getElem_take, hitF, decide_eq_false_iff_not]
  omega
theorem frameOf_from {zs : List CFrames.D} (h : framesOk zs = true) {k : Nat} (hk : k < zs.length) : frameOf zs zs[k].1 = k :=
  frameOf_in h hk (Int.le_refl _) (ok_z h hk).2.1
theorem frameOf_last {zs : List CFrames.D} (h : framesOk zs = true) {k : Nat} (hk : k < zs.length) : frameOf zs (zs[k].2.1 - 1) = k :=
  frameOf_in h hk (by have := ok_z h hk; omega) (by omega)
/-- What FrameOf answers: no frame, or one that the address is in. -/
theorem frameOf_cases (zs : List CFrames.D) (a : Int) : frameOf zs a = -1 ∨ ∃ (j : Nat) (hj : j < zs.length), frameOf zs a = j ∧ zs[j].1 ≤ a ∧ a < zs[j].2.1 := by
  unfold frameOf
  split
  · unfold frameIx
    cases he : zs.findIdx? (hitF a) with
    | none => exact .inl rfl
    | some j =>
      rw [List.findIdx?_eq_some_iff_getElem] at he
      obtain ⟨hj, hh, _⟩ := he
      simp only [hitF, decide_eq_true_eq] at hh
      exact .inr ⟨j, hj, rfl, hh.1, hh.2⟩
  · exact .inl rfl
end Go.Proofs.Ytndnmbhhfiacaaa.PFrames
