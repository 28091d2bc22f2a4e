/- Plain facts on steps of a machine: what the reference checks last. -/
import Derived.Test.YtjnnjgogpapbhaaCStepI
namespace Go.Proofs.Ytjnnjgogpapbhaa.PStep
set_option maxRecDepth 200000
open Go.ChangeShapes Go.WideShapes Go.ChangeAt Go.RowKit Kit CCode CMachine CPutCode CDo CStepI
/-- What the reference makes of a machine ahead of its last check. -/
def doS (n : Int) (st ca : List Int) (d a : Int) : Option (Int × List Int × List Int) :=
  if d = 1 then some (n, st ++ [a], ca)
  else if d = 4 then some (a, st, ca)
  else if d = 6 then some (a, st, ca ++ [n])
  else if d = 7 then (if 1 ≤ ca.length then some (ca.getD (ca.length - 1) 0, st, ca.take (ca.length - 1)) else none)
  else if d = 5 then (if 1 ≤ st.length then some (if st.getD (st.length - 1) 0 = 0 then a else n, st.take (st.length - 1), ca) else none)
  else if d = 2 then (if 2 ≤ st.length then some (n, st.take (st.length - 2) ++ [(st.getD (st.length - 2) 0 + st.getD (st.length - 1) 0) % 65536], ca) else none)
  else (if 2 ≤ st.length then some (n, st.take (st.length - 2) ++ [(st.getD (st.length - 2) 0 - st.getD (st.length - 1) 0 + 65535 + 1) % 65536], ca) else none)
def stepS (a : Int) (st ca : List Int) (g : Int × Int × Int) : Int × List Int × List Int × Int :=
  if g.2.2 < 0 then (a, st, ca, 2) else if g.1 = 0 then (a, st, ca, 1) else
    match doS g.2.2 st ca g.1 g.2.1 with
    | some (n, s, c) => if machOk n s c then (n, s, c, 0) else (a, st, ca, 2)
    | none => (a, st, ca, 2)
def stepMS (a : Int) (st ca zs : List Int) : Int × List Int × List Int × Int := if machOk a st ca then stepS a st ca (gcode zs a) else (0, [], [], 2)
theorem machOk_iff {a : Int} {st ca : List Int} : machOk a st ca = true ↔ 0 ≤ a ∧ st.length ≤ 8 ∧ ca.length ≤ 8 ∧ (∀ x ∈ st, 0 ≤ x ∧ x ≤ 65535) ∧ (∀ x ∈ ca, 0 ≤ x) := by
  simp only [machOk, Bool.and_eq_true, decide_eq_true_eq, Bool.not_eq_true', List.any_eq_false, Bool.not_eq_true, Bool.not_eq_false', decide_eq_false_iff_not, inB]
  constructor
  · rintro ⟨⟨⟨⟨h1, h2⟩, h3⟩, h4⟩, h5⟩
    exact ⟨h1, h2, h3, fun x hx => by have := h4 x hx; simpa using this, fun x hx => by have := h5 x hx; simpa using this⟩
  · rintro ⟨h1, h2, h3, h4, h5⟩
    exact ⟨⟨⟨⟨h1, h2⟩, h3⟩, fun x hx => by simpa using h4 x hx⟩, fun x hx => by simpa using h5 x hx⟩
theorem getD_mem {zs : List Int} {k : Nat} (h : k < zs.length) : zs.getD k 0 ∈ zs := by
  rw [List.getD_eq_getElem?_getD, List.getElem?_eq_getElem h]
  exact List.getElem_mem h
theorem mod_eq {x y : Int} : (x - y + 65535 + 1) % 65536 = (x + (65536 - y)) % 65536 := by
  congr 1
  omega
theorem pop2_ok (n : Int) (st ca : List Int) (v : Int) {at_ : Int} (h : machOk at_ st ca = true) (hn : 0 ≤ n) : machOk n (st.take (st.length - 2) ++ [v % 65536]) ca = true := by
  obtain ⟨m0, m1, m2, m3, m4⟩ := machOk_iff.1 h
  refine machOk_iff.2 ⟨hn, ?_, m2, fun x hx => ?_, m4⟩
  · simp
    by_cases hl : 2 ≤ st.length
    · omega
    · omega
  · rcases List.mem_append.1 hx with hx | hx
    · exact m3 x (List.mem_of_mem_take hx)
    · simp only [List.mem_singleton] at hx
      omega
theorem step_same (at_ : Int) (st ca : List Int) (n d a : Int) (h : machOk at_ st ca = true) (hc : 0 ≤ n → codeOk d a = true) : stepS at_ st ca (d, a, n) = stepR at_ st ca (d, a, n) := by
  obtain ⟨m0, m1, m2, m3, m4⟩ := machOk_iff.1 h
  unfold stepS stepR
  by_cases hn : n < 0
  · rw [if_pos hn, if_pos hn]
  · rw [if_neg hn, if_neg hn]
    by_cases h0 : d = 0
    · rw [if_pos h0, if_pos h0]
    · rw [if_neg h0, if_neg h0]
      have hok := hc (by omega)
      simp only [codeOk, hasArgB, decide_eq_true_eq, Bool.or_eq_true, beq_iff_eq] at hok
      have hd : d = 1 ∨ d = 2 ∨ d = 3 ∨ d = 4 ∨ d = 5 ∨ d = 6 ∨ d = 7 := by omega
      simp only
      rcases hd with rfl | rfl | rfl | rfl | rfl | rfl | rfl
      · simp only [doS, doM, if_pos]
        by_cases hl : st.length < 8
        · rw [if_pos hl]
          have : machOk n (st ++ [a]) ca = true := machOk_iff.2 ⟨by omega, by simp; omega, m2, fun x hx => by
            rcases List.mem_append.1 hx with hx | hx
            · exact m3 x hx
            · simp only [List.mem_singleton] at hx
              subst hx
              omega, m4⟩
          simp [this]
        · rw [if_neg hl]
          have : machOk n (st ++ [a]) ca = false := by
            rw [Bool.eq_false_iff]
            intro hh
            have := (machOk_iff.1 hh).2.1
            simp at this
            omega
          simp [this]
      · simp only [doS, doM, if_pos, if_neg, show ¬ ((2 : Int) = 1) by decide, show ¬ ((2 : Int) = 4) by decide, show ¬ ((2 : Int) = 6) by decide, show ¬ ((2 : Int) = 7) by decide, show ¬ ((2 : Int) = 5) by decide, if_false]
        by_cases hl : 2 ≤ st.length
        · simp only [if_pos hl]
          rw [if_pos (pop2_ok n st ca _ h (by omega))]
        · simp only [if_neg hl]
      · simp only [doS, doM, if_pos, if_neg, show ¬ ((3 : Int) = 1) by decide, show ¬ ((3 : Int) = 2) by decide, show ¬ ((3 : Int) = 4) by decide, show ¬ ((3 : Int) = 6) by decide, show ¬ ((3 : Int) = 7) by decide, show ¬ ((3 : Int) = 5) by decide, if_false]
        by_cases hl : 2 ≤ st.length
        · simp only [if_pos hl]
          rw [mod_eq, if_pos (pop2_ok n st ca _ h (by omega))]
        · simp only [if_neg hl]
      · simp only [doS, doM, if_pos, if_neg, show ¬ ((4 : Int) = 1) by decide, show ¬ ((4 : Int) = 2) by decide, show ¬ ((4 : Int) = 3) by decide, if_false]
        rw [if_pos (machOk_iff.2 ⟨by omega, m1, m2, m3, m4⟩)]
      · simp only [doS, doM, if_pos, if_neg, show ¬ ((5 : Int) = 1) by decide, show ¬ ((5 : Int) = 2) by decide, show ¬ ((5 : Int) = 3) by decide, show ¬ ((5 : Int) = 4) by decide, show ¬ ((5 : Int) = 6) by decide, show ¬ ((5 : Int) = 7) by decide, if_false]
        by_cases hl : 1 ≤ st.length
        · simp only [if_pos hl]
          rw [if_pos]
          refine machOk_iff.2 ⟨by split <;> omega, by simp; omega, m2, fun x hx => m3 x (List.mem_of_mem_take hx), m4⟩
        · simp only [if_neg hl]
      · simp only [doS, doM, if_pos, if_neg, show ¬ ((6 : Int) = 1) by decide, show ¬ ((6 : Int) = 2) by decide, show ¬ ((6 : Int) = 3) by decide, show ¬ ((6 : Int) = 4) by decide, show ¬ ((6 : Int) = 5) by decide, if_false]
        by_cases hl : ca.length < 8
        · rw [if_pos hl]
          have : machOk a st (ca ++ [n]) = true := machOk_iff.2 ⟨by omega, m1, by simp; omega, m3, fun x hx => by
            rcases List.mem_append.1 hx with hx | hx
            · exact m4 x hx
            · simp only [List.mem_singleton] at hx
              subst hx
              omega⟩
          simp [this]
        · rw [if_neg hl]
          have : machOk a st (ca ++ [n]) = false := by
            rw [Bool.eq_false_iff]
            intro hh
            have := (machOk_iff.1 hh).2.2.1
            simp at this
            omega
          simp [this]
      · simp only [doS, doM, if_pos, if_neg, show ¬ ((7 : Int) = 1) by decide, show ¬ ((7 : Int) = 2) by decide, show ¬ ((7 : Int) = 3) by decide, show ¬ ((7 : Int) = 4) by decide, show ¬ ((7 : Int) = 5) by decide, show ¬ ((7 : Int) = 6) by decide, if_false]
        by_cases hl : 1 ≤ ca.length
        · simp only [if_pos hl]
          rw [if_pos]
          refine machOk_iff.2 ⟨m4 _ (getD_mem (by omega)), m1, by simp; omega, m3, fun x hx => m4 x (List.mem_of_mem_take hx)⟩
        · simp only [if_neg hl]
theorem stepMS_eq (a : Int) (st ca zs : List Int) : stepMS a st ca zs = stepM a st ca zs := by
  unfold stepMS stepM
  by_cases h : machOk a st ca = true
  · rw [if_pos h, if_pos h]
    exact step_same a st ca _ _ _ h (fun hn => gcode_bd zs a hn)
  · rw [if_neg h, if_neg h]
end Go.Proofs.Ytjnnjgogpapbhaa.PStep
