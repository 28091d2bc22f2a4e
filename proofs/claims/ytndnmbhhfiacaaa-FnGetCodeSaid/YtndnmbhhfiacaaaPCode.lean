/- Plain laws of the bytes of instructions. -/
import Derived.Test.YtndnmbhhfiacaaaCPutCode
namespace Go.Proofs.Ytndnmbhhfiacaaa.PCode
set_option maxRecDepth 200000
open Go.ChangeShapes Go.WideShapes Go.ChangeAt Go.RowKit Kit CCode CNumber CPutCode
theorem pcode_bd (a b : Int) : (pcode a b).length ≤ 3 ∧ InR 0 255 (pcode a b) := by
  unfold pcode
  split
  · rename_i h
    simp only [codeOk, decide_eq_true_eq] at h
    split
    · refine ⟨by simp [putL_len], fun x hx => ?_⟩
      rcases List.mem_cons.1 hx with rfl | hx
      · omega
      · exact putL_bd _ _ x hx
    · refine ⟨by simp, fun x hx => ?_⟩
      simp only [List.mem_cons, List.not_mem_nil, or_false] at hx
      omega
  · exact ⟨by simp, fun x hx => by simp at hx⟩
theorem pcode_none {a b : Int} (h : codeOk a b = false) : pcode a b = [] := by rw [pcode, h]; rfl
theorem pcode_pos {a b : Int} (h : codeOk a b = true) : 0 < (pcode a b).length := by rw [pcode, if_pos h]; simp
theorem gcode_put {a b : Int} (h : codeOk a b = true) : gcode (9 :: (pcode a b ++ [9])) 1 = (a, b, 1 + ((pcode a b).length : Int)) := by
  have hb : 0 ≤ b ∧ b ≤ 65535 := by simp only [codeOk, decide_eq_true_eq] at h; omega
  cases ha : hasArgB a
  · have hb0 : b = 0 := by
      simp only [codeOk, hasArgB, decide_eq_true_eq, decide_eq_false_iff_not] at h ha
      omega
    subst hb0
    have e : pcode a 0 = [a] := by simp [pcode, h, ha]
    rw [e]
    simp [gcode, inB, ha, h]
  · have e : pcode a b = [a, b % 256, b / 256 % 256] := by simp [pcode, h, ha, putL]
    rw [e]
    have g : gnum [9, a, b % 256, b / 256 % 256, 9] 2 2 = b := by
      simp [gnum, inB, numL]
      omega
    simp [gcode, inB, ha, g, h]
theorem gcode_no {zs : List Int} {at_ : Int} (h : (gcode zs at_).2.2 < 0) : gcode zs at_ = (0, 0, -1) := by
  unfold gcode at h ⊢
  by_cases h1 : inB at_ 0 (zs.length - 1) = true
  · have h1' := h1
    simp only [inB, decide_eq_true_eq] at h1'
    rw [if_pos h1] at h ⊢
    split at h
    · rename_i h2
      rw [if_pos h2]
      split at h
      · simp only at h; omega
      · rename_i h3
        rw [if_neg h3]
    · rename_i h2
      rw [if_neg h2]
      split at h
      · simp only at h; omega
      · rename_i h3
        rw [if_neg h3]
  · rw [if_neg h1]
theorem gcode_take {zs : List Int} {at_ : Int} (hz : InR 0 255 zs) (h : 0 ≤ (gcode zs at_).2.2) :
    ∃ k j : Nat, at_ = k ∧ 0 < j ∧ k + j ≤ zs.length ∧ (gcode zs at_).2.2 = ((k + j : Nat) : Int) ∧ pcode (gcode zs at_).1 (gcode zs at_).2.1 = (zs.drop k).take j := by
  unfold gcode at h ⊢
  by_cases h1 : inB at_ 0 (zs.length - 1) = true
  · have h1' := h1
    simp only [inB, decide_eq_true_eq] at h1'
    obtain ⟨k, rfl⟩ := Int.eq_ofNat_of_zero_le h1'.1
    have hk : k < zs.length := by omega
    have hx : zs.getD ((k : Int)).toNat 0 = zs[k] := by rw [Int.toNat_natCast, List.getD_eq_getElem?_getD, List.getElem?_eq_getElem hk]; rfl
    rw [hx] at h ⊢
    rw [if_pos h1] at h ⊢
    by_cases h2 : hasArgB zs[k] = true
    · rw [if_pos h2] at h ⊢
      by_cases h3 : codeOk zs[k] (gnum zs ((k : Int) + 1) 2) = true
      · rw [if_pos h3] at h ⊢
        have h3' := h3
        simp only [codeOk, decide_eq_true_eq] at h3'
        have hl : k + 3 ≤ zs.length := by
          apply Classical.byContradiction
          intro hn
          have : gnum zs ((k : Int) + 1) 2 = -1 := by
            unfold gnum
            rw [if_neg]
            rintro ⟨_, hb⟩
            simp only [inB, decide_eq_true_eq] at hb
            omega
          omega
        have e3 : (zs.drop k).take 3 = [zs[k], zs[k + 1], zs[k + 2]] := by
          rw [List.drop_eq_getElem_cons hk, List.drop_eq_getElem_cons (by omega), List.drop_eq_getElem_cons (by omega)]
          rfl
        have g : gnum zs ((k : Int) + 1) 2 = zs[k + 1] + 256 * zs[k + 2] := by
          unfold gnum
          rw [if_pos ⟨by simp [inB], by simp only [inB, decide_eq_true_eq]; omega⟩]
          have et : ((k : Int) + 1).toNat = k + 1 := by omega
          rw [et, List.drop_eq_getElem_cons (by omega), List.drop_eq_getElem_cons (by omega)]
          show zs[k + 1] + 256 * (zs[k + 2] + 256 * 0) = _
          omega
        have hy := hz.at_ (i := k + 1) (by omega)
        have hw := hz.at_ (i := k + 2) (by omega)
        refine ⟨k, 3, rfl, by omega, hl, by simp, ?_⟩
        rw [e3]
        simp only
        rw [pcode, if_pos h3, if_pos h2, g]
        generalize zs[k + 1] = y at *
        generalize zs[k + 2] = v at *
        simp [putL]
        omega
      · rw [if_neg h3] at h
        simp only at h
        omega
    · rw [if_neg h2] at h ⊢
      by_cases h3 : codeOk zs[k] 0 = true
      · rw [if_pos h3] at h ⊢
        refine ⟨k, 1, rfl, by omega, by omega, by simp, ?_⟩
        have e1 : (zs.drop k).take 1 = [zs[k]] := by
          rw [List.drop_eq_getElem_cons hk]
          rfl
        rw [e1]
        simp only
        rw [pcode, if_pos h3, if_neg h2]
      · rw [if_neg h3] at h
        simp only at h
        omega
  · rw [if_neg h1] at h
    simp only at h
    omega
end Go.Proofs.Ytndnmbhhfiacaaa.PCode
