/- Contracts of hasArg, CodeValid (the program's and the reference's) and of the mirror of Code. -/
import Derived.Test.YtjnnjgogpapbhaaDoorBase
import Derived.Test.YtjnnjgogpapbhaaDoorRows
namespace Go.Proofs.YtjnnjgogpapbhaaDoor.CCode
set_option maxRecDepth 200000
open Go.ChangeShapes Go.WideShapes Go.ChangeAt Go.RowKit Kit
def codeOk (a b : Int) : Bool := decide (0 ≤ a ∧ a ≤ 7 ∧ 0 ≤ b ∧ b ≤ 65535 ∧ (b = 0 ∨ a = 1 ∨ a = 4 ∨ a = 5 ∨ a = 6))
def hasArgB (a : Int) : Bool := decide (a = 1 ∨ a = 4 ∨ a = 5 ∨ a = 6)
def inB (n lo hi : Int) : Bool := decide (lo ≤ n ∧ n ≤ hi)
theorem inB_t {n lo hi : Int} (h : lo ≤ n ∧ n ≤ hi) : inB n lo hi = true := decide_eq_true h
theorem inB_f {n lo hi : Int} (h : ¬ (lo ≤ n ∧ n ≤ hi)) : inB n lo hi = false := decide_eq_false h
theorem within_any (n lo hi : Int) (w : World) : Calls Tryd.prog 36 #[.int .i64 n, .int .i64 lo, .int .i64 hi] w (Pure (.bool (inB n lo hi)) w) := by
  by_cases h1 : lo ≤ n
  · by_cases h2 : n ≤ hi
    all_goals
      go_enter Tryd.func36, Tryd.ntmps36
      go_wp2
      go_ret
      exact ⟨ret_bool (by simp [inB, h1, h2]), rfl⟩
  · go_enter Tryd.func36, Tryd.ntmps36
    go_wp2
    go_ret
    exact ⟨ret_bool (inB_f (by omega)).symm, rfl⟩
theorem l1In_any (n lo hi : Int) (w : World) : Calls Tryd.prog 33 #[.int .i64 n, .int .i64 lo, .int .i64 hi] w (Pure (.bool (inB n lo hi)) w) := by
  by_cases h1 : lo ≤ n
  · by_cases h2 : n ≤ hi
    all_goals
      go_enter Tryd.func33, Tryd.ntmps33
      go_wp2
      go_ret
      exact ⟨ret_bool (by simp [inB, h1, h2]), rfl⟩
  · go_enter Tryd.func33, Tryd.ntmps33
    go_wp2
    go_ret
    exact ⟨ret_bool (inB_f (by omega)).symm, rfl⟩
theorem hasArg_any (a : Int) (w : World) : Calls Tryd.prog 30 #[.int .i64 a] w (Pure (.bool (hasArgB a)) w) := by
  by_cases h : hasArgB a = true
  · have h' := h
    simp only [hasArgB, decide_eq_true_eq] at h'
    rcases h' with rfl | rfl | rfl | rfl
    all_goals
      clear h
      go_enter Tryd.func30, Tryd.ntmps30
      go_wp2
      go_ret
      exact ⟨rfl, rfl⟩
  · have h' := h
    simp only [hasArgB, decide_eq_true_eq, not_or] at h'
    obtain ⟨a1, a2, a3, a4⟩ := h'
    have b1 : (a == 1) = false := by simpa using a1
    have b2 : (a == 4) = false := by simpa using a2
    have b3 : (a == 5) = false := by simpa using a3
    have b4 : (a == 6) = false := by simpa using a4
    have hf : hasArgB a = false := by simpa using h
    have H := hide hf
    clear h hf a1 a2 a3 a4
    go_enter Tryd.func30, Tryd.ntmps30
    go_wp2
    go_ret
    exact ⟨ret_bool H.out.symm, rfl⟩
theorem l29Has_any (a : Int) (w : World) : Calls Tryd.prog 27 #[.int .i64 a] w (Pure (.bool (hasArgB a)) w) := by
  by_cases h : a = 1
  · subst h
    go_enter Tryd.func27, Tryd.ntmps27
    go_wp2
    go_ret
    exact ⟨rfl, rfl⟩
  · have b1 : (a == 1) = false := by simpa using h
    have e : inB a 4 6 = hasArgB a := by simp only [inB, hasArgB, decide_eq_decide]; omega
    have E := hide e
    clear e h
    go_enter Tryd.func27, Tryd.ntmps27
    go_wp2_with (go_at_call 33; refine (l1In_any _ _ _ _).mono ?_; rintro e w' ⟨rfl, rfl⟩)
    go_ret
    exact ⟨ret_bool E.out, rfl⟩
theorem toCode_any (a b : Int) (w : World) : Calls Tryd.prog 10 #[.agg #[.int .i64 a, .int .i64 b]] w (Ret (.agg #[.int .i64 a, .int .i64 b]) w) := by
  go_enter Tryd.func10, Tryd.ntmps10
  go_wp2
  exact bodyPost_ret (v := .agg #[.int .i64 a, .int .i64 b]) (by simp [results, Tryd.results10, go_sem]) rfl ⟨rfl, (by repeat (first | exact Below.refl _ _ | with_reducible assumption | (refine Below.drew ?_) | (refine Below.drewN ?_ _) | (refine Below.alloc ?_ (by simp; try omega) _) | (refine Below.setCell ?_ (by simp; try omega) _)))⟩
theorem codeValid_any (a b : Int) (w : World) : Calls Tryd.prog 29 #[.agg #[.int .i64 a, .int .i64 b]] w (Ret (.bool (codeOk a b)) w) := by
  cases h : hasArgB a
  all_goals
    go_enter Tryd.func29, Tryd.ntmps29
    go_wp2_with (first | (go_at_call 36; refine (within_any _ _ _ _).mono ?_; rintro e w' ⟨rfl, rfl⟩) | (go_at_call 30; refine (hasArg_any _ _).mono ?_; rintro e w' ⟨rfl, rfl⟩) | (go_at_call 33; refine (l1In_any _ _ _ _).mono ?_; rintro e w' ⟨rfl, rfl⟩) | (go_at_call 27; refine (l29Has_any _ _).mono ?_; rintro e w' ⟨rfl, rfl⟩) | fail)
    all_goals go_ret
    all_goals refine ⟨ret_bool ?_, (by repeat (first | exact Below.refl _ _ | with_reducible assumption | (refine Below.drew ?_) | (refine Below.drewN ?_ _) | (refine Below.alloc ?_ (by simp; try omega) _) | (refine Below.setCell ?_ (by simp; try omega) _)))⟩
    all_goals (rw [Bool.eq_iff_iff]; simp only [codeOk, inB, hasArgB, beq_iff_eq, decide_eq_true_eq, Bool.or_eq_true, Bool.and_eq_true, bne_iff_ne, ne_eq, Bool.not_eq_true', Bool.not_eq_true, Bool.false_eq_true, decide_eq_false_iff_not, beq_eq_false_iff_ne, eq_self, false_iff, true_iff, iff_true, iff_false, true_or, or_true, true_and, and_true, false_or, or_false] at *; omega)
theorem codeValidS_any (a b : Int) (w : World) : Calls Tryd.prog 24 #[.agg #[.int .i64 a, .int .i64 b]] w (Ret (.bool (codeOk a b)) w) := by
  cases h : hasArgB a
  all_goals
    by_cases hb : b = 0
    · subst hb
      go_enter Tryd.func24, Tryd.ntmps24
      go_wp2_with (first | (go_at_call 36; refine (within_any _ _ _ _).mono ?_; rintro e w' ⟨rfl, rfl⟩) | (go_at_call 30; refine (hasArg_any _ _).mono ?_; rintro e w' ⟨rfl, rfl⟩) | (go_at_call 33; refine (l1In_any _ _ _ _).mono ?_; rintro e w' ⟨rfl, rfl⟩) | (go_at_call 27; refine (l29Has_any _ _).mono ?_; rintro e w' ⟨rfl, rfl⟩) | fail)
      all_goals go_ret
      all_goals refine ⟨ret_bool ?_, (by repeat (first | exact Below.refl _ _ | with_reducible assumption | (refine Below.drew ?_) | (refine Below.drewN ?_ _) | (refine Below.alloc ?_ (by simp; try omega) _) | (refine Below.setCell ?_ (by simp; try omega) _)))⟩
      all_goals (rw [Bool.eq_iff_iff]; simp only [codeOk, inB, hasArgB, beq_iff_eq, decide_eq_true_eq, Bool.or_eq_true, Bool.and_eq_true, bne_iff_ne, ne_eq, Bool.not_eq_true', Bool.not_eq_true, Bool.false_eq_true, decide_eq_false_iff_not, beq_eq_false_iff_ne, eq_self, false_iff, true_iff, iff_true, iff_false, true_or, or_true, true_and, and_true, false_or, or_false] at *; omega)
    · have hb' : (b == 0) = false := by simpa using hb
      go_enter Tryd.func24, Tryd.ntmps24
      go_wp2_with (first | (go_at_call 36; refine (within_any _ _ _ _).mono ?_; rintro e w' ⟨rfl, rfl⟩) | (go_at_call 30; refine (hasArg_any _ _).mono ?_; rintro e w' ⟨rfl, rfl⟩) | (go_at_call 33; refine (l1In_any _ _ _ _).mono ?_; rintro e w' ⟨rfl, rfl⟩) | (go_at_call 27; refine (l29Has_any _ _).mono ?_; rintro e w' ⟨rfl, rfl⟩) | fail)
      all_goals go_ret
      all_goals refine ⟨ret_bool ?_, (by repeat (first | exact Below.refl _ _ | with_reducible assumption | (refine Below.drew ?_) | (refine Below.drewN ?_ _) | (refine Below.alloc ?_ (by simp; try omega) _) | (refine Below.setCell ?_ (by simp; try omega) _)))⟩
      all_goals (rw [Bool.eq_iff_iff]; simp only [codeOk, inB, hasArgB, beq_iff_eq, decide_eq_true_eq, Bool.or_eq_true, Bool.and_eq_true, bne_iff_ne, ne_eq, Bool.not_eq_true', Bool.not_eq_true, Bool.false_eq_true, decide_eq_false_iff_not, beq_eq_false_iff_ne, eq_self, false_iff, true_iff, iff_true, iff_false, true_or, or_true, true_and, and_true, false_or, or_false] at *; omega)
end Go.Proofs.YtjnnjgogpapbhaaDoor.CCode
