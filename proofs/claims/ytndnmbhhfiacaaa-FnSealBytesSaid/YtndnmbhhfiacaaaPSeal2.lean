/- Plain laws of seals: what is sealed can be opened; a changed byte is noticed. -/
import Derived.Test.YtndnmbhhfiacaaaPSeal
namespace Go.Proofs.Ytndnmbhhfiacaaa.PSeal2
set_option maxRecDepth 200000
open Go.ChangeShapes Go.WideShapes Go.ChangeAt Go.RowKit Kit CCode CSumOf CNumber PSums PSeal
theorem sealed_yes {zs : List Int} (h : zs.length ≤ 2000) : sealed zs = zs ++ putL 2 (sumOf zs) := by unfold sealed; rw [if_pos h]
theorem sealed_len {zs : List Int} (h : zs.length ≤ 2000) : (sealed zs).length = zs.length + 2 := by rw [sealed_yes h, List.length_append, putL_len]
theorem sealed_no {zs : List Int} (h : 2000 < zs.length) : sealed zs = [] := by unfold sealed; rw [if_neg (by omega)]
theorem open_sealed {zs : List Int} (h : zs.length ≤ 2000) : opened (sealed zs) = (zs, true) := by
  have hl := sealed_len h
  have ht : (sealed zs).take ((sealed zs).length - 2) = zs := by
    rw [hl, Nat.add_sub_cancel, sealed_yes h]
    simp
  have ho : openOk (sealed zs) = true := by
    unfold openOk
    rw [ht, hl]
    simp
    omega
  unfold opened
  rw [if_pos ho, ht]
theorem open_bad {zs : List Int} (h : zs.length ≤ 2000) {k : Nat} (hk : k < (sealed zs).length) {y : Int} (hy : y = (sealed zs)[k] + 1 ∨ y = (sealed zs)[k] - 1) : openOk ((sealed zs).set k y) = false := by
  have hl := sealed_len h
  unfold openOk
  rw [List.length_set, hl, Nat.add_sub_cancel, Bool.and_eq_false_iff]
  right
  apply decide_eq_false
  intro he
  by_cases hkn : k < zs.length
  · have e1 : (sealed zs).set k y = zs.set k y ++ putL 2 (sumOf zs) := by rw [sealed_yes h, List.set_append_left _ _ hkn]
    have e2 : ((sealed zs).set k y).take zs.length = zs.set k y := by
      rw [e1]
      have : (zs.set k y).length = zs.length := by simp
      rw [List.take_append_of_le_length (by omega), List.take_of_length_le (by omega)]
    rw [e2, e1, sealed_yes (by simpa using h)] at he
    have he := List.append_cancel_left he
    obtain ⟨a, b, p1, a0, a1, b0, b1, hs1⟩ := putL2 (sumOf (zs.set k y)) (sumOf_bd _).1 (by have := (sumOf_bd (zs.set k y)).2; omega)
    obtain ⟨a', b', p2, _, _, _, _, hs2⟩ := putL2 (sumOf zs) (sumOf_bd _).1 (by have := (sumOf_bd zs).2; omega)
    rw [p1, p2] at he
    simp only [List.cons.injEq, and_true] at he
    have hv : (sealed zs)[k] = zs[k] := by simp only [sealed_yes h]; rw [List.getElem_append_left hkn]
    rw [hv] at hy
    exact sum_changed zs k y hkn hy (by omega)
  · have e2 : ((sealed zs).set k y).take zs.length = zs := by
      rw [List.take_set_of_le (by omega), sealed_yes h]
      simp
    rw [e2] at he
    have : (sealed zs)[k]? = some y := by
      conv => lhs; rw [he]
      rw [List.getElem?_set_self hk]
    rw [List.getElem?_eq_getElem hk] at this
    injection this with this
    omega
end Go.Proofs.Ytndnmbhhfiacaaa.PSeal2
