/- The program's and the reference's SectionValid, and what they call. -/
import Derived.Test.YtmglgjchemecjaaBObj
import Derived.Test.YtmglgjchemecjaaPValid
namespace Go.Proofs.Ytmglgjchemecjaa.CSecValid
set_option maxRecDepth 200000
open Go.ChangeShapes Go.WideShapes Go.ChangeAt Go.RowKit Kit CCode CName CFixups CSymbols PObj BObj PValid
theorem isAlign_any (n : Int) (w : World) : Calls Try.prog 114 #[.int .i64 n] w (Pure (.bool (alignOk n)) w) := by
  by_cases h1 : n = 1
  · subst h1
    go_enter Try.func114, Try.ntmps114
    go_wp2
    go_ret
    exact ⟨rfl, rfl⟩
  by_cases h2 : n = 2
  · subst h2
    go_enter Try.func114, Try.ntmps114
    go_wp2
    go_ret
    exact ⟨rfl, rfl⟩
  by_cases h4 : n = 4
  · subst h4
    go_enter Try.func114, Try.ntmps114
    go_wp2
    go_ret
    exact ⟨rfl, rfl⟩
  by_cases h8 : n = 8
  · subst h8
    go_enter Try.func114, Try.ntmps114
    go_wp2
    go_ret
    exact ⟨rfl, rfl⟩
  have hv : alignOk n = false := by simp [alignOk, h1, h2, h4, h8]
  rw [hv]
  have e1 : (n == 1) = false := beq_eq_false_iff_ne.2 h1
  have e2 : (n == 2) = false := beq_eq_false_iff_ne.2 h2
  have e4 : (n == 4) = false := beq_eq_false_iff_ne.2 h4
  have e8 : (n == 8) = false := beq_eq_false_iff_ne.2 h8
  go_enter Try.func114, Try.ntmps114
  go_wp2
  go_ret
  exact ⟨rfl, rfl⟩
theorem alignUp0_any (n : Int) (w : World) : Calls Try.prog 132 #[.int .i64 0, .int .i64 n] w (Pure (.int .i64 (bif alignOk n then 0 else -1)) w) := by
  by_cases h1 : n = 1
  · subst h1
    go_enter Try.func132, Try.ntmps132
    go_wp2_with (go_at_call 110; refine (l1In_any _ _ _ _).mono ?_; rintro e w' ⟨rfl, rfl⟩; rw [inB_t (by omega)])
    go_ret
    exact ⟨rfl, rfl⟩
  by_cases h2 : n = 2
  · subst h2
    go_enter Try.func132, Try.ntmps132
    go_wp2_with (go_at_call 110; refine (l1In_any _ _ _ _).mono ?_; rintro e w' ⟨rfl, rfl⟩; rw [inB_t (by omega)])
    go_ret
    exact ⟨rfl, rfl⟩
  by_cases h4 : n = 4
  · subst h4
    go_enter Try.func132, Try.ntmps132
    go_wp2_with (go_at_call 110; refine (l1In_any _ _ _ _).mono ?_; rintro e w' ⟨rfl, rfl⟩; rw [inB_t (by omega)])
    go_ret
    exact ⟨rfl, rfl⟩
  by_cases h8 : n = 8
  · subst h8
    go_enter Try.func132, Try.ntmps132
    go_wp2_with (go_at_call 110; refine (l1In_any _ _ _ _).mono ?_; rintro e w' ⟨rfl, rfl⟩; rw [inB_t (by omega)])
    go_ret
    exact ⟨rfl, rfl⟩
  have hv : alignOk n = false := by simp [alignOk, h1, h2, h4, h8]
  rw [hv]
  have e1 : (n == 1) = false := beq_eq_false_iff_ne.2 h1
  have e2 : (n == 2) = false := beq_eq_false_iff_ne.2 h2
  have e4 : (n == 4) = false := beq_eq_false_iff_ne.2 h4
  have e8 : (n == 8) = false := beq_eq_false_iff_ne.2 h8
  have b1 : (n != 1) = true := bne_iff_ne.2 h1
  have b2 : (n != 2) = true := bne_iff_ne.2 h2
  have b4 : (n != 4) = true := bne_iff_ne.2 h4
  have b8 : (n != 8) = true := bne_iff_ne.2 h8
  go_enter Try.func132, Try.ntmps132
  go_wp2_with (go_at_call 110; refine (l1In_any _ _ _ _).mono ?_; rintro e w' ⟨rfl, rfl⟩; rw [inB_t (by omega)])
  go_ret
  exact ⟨rfl, rfl⟩
theorem fixupWide_any (k : Int) (w : World) : Calls Try.prog 49 #[.int .i64 k] w (Pure (.int .i64 (wide k)) w) := by
  by_cases h1 : k = 1
  · subst h1
    go_enter Try.func49, Try.ntmps49
    go_wp2
    go_ret
    exact ⟨rfl, rfl⟩
  by_cases h2 : k = 2
  · subst h2
    go_enter Try.func49, Try.ntmps49
    go_wp2
    go_ret
    exact ⟨rfl, rfl⟩
  by_cases h3 : k = 3
  · subst h3
    go_enter Try.func49, Try.ntmps49
    go_wp2
    go_ret
    exact ⟨rfl, rfl⟩
  have hv : wide k = 0 := by simp [wide, h1, h2, h3]
  rw [hv]
  have e1 : (k == 1) = false := beq_eq_false_iff_ne.2 h1
  have e2 : (k == 2) = false := beq_eq_false_iff_ne.2 h2
  have e3 : (k == 3) = false := beq_eq_false_iff_ne.2 h3
  go_enter Try.func49, Try.ntmps49
  go_wp2
  go_ret
  exact ⟨rfl, rfl⟩
theorem fixupWideS_any (k : Int) (w : World) : Calls Try.prog 47 #[.int .i64 k] w (Ret (.int .i64 (wide k)) w) := by
  by_cases h1 : k = 1
  · subst h1
    go_enter Try.func47, Try.ntmps47
    go_wp2_with (go_at_call 110; refine (l1In_any _ _ _ _).mono ?_; rintro e w' ⟨rfl, rfl⟩; rw [inB_t (by omega)])
    go_ret
    exact ⟨rfl, (by repeat (first | exact Below.refl _ _ | with_reducible assumption | (refine Below.drew ?_) | (refine Below.drewN ?_ _) | (refine Below.alloc ?_ (by simp; try omega) _) | (refine Below.setCell ?_ (by simp; try omega) _)))⟩
  by_cases h2 : k = 2
  · subst h2
    go_enter Try.func47, Try.ntmps47
    go_wp2_with (go_at_call 110; refine (l1In_any _ _ _ _).mono ?_; rintro e w' ⟨rfl, rfl⟩; rw [inB_t (by omega)])
    go_ret
    exact ⟨rfl, (by repeat (first | exact Below.refl _ _ | with_reducible assumption | (refine Below.drew ?_) | (refine Below.drewN ?_ _) | (refine Below.alloc ?_ (by simp; try omega) _) | (refine Below.setCell ?_ (by simp; try omega) _)))⟩
  by_cases h3 : k = 3
  · subst h3
    go_enter Try.func47, Try.ntmps47
    go_wp2_with (go_at_call 110; refine (l1In_any _ _ _ _).mono ?_; rintro e w' ⟨rfl, rfl⟩; rw [inB_t (by omega)])
    go_ret
    exact ⟨rfl, (by repeat (first | exact Below.refl _ _ | with_reducible assumption | (refine Below.drew ?_) | (refine Below.drewN ?_ _) | (refine Below.alloc ?_ (by simp; try omega) _) | (refine Below.setCell ?_ (by simp; try omega) _)))⟩
  have hv : wide k = 0 := by simp [wide, h1, h2, h3]
  rw [hv]
  go_enter Try.func47, Try.ntmps47
  go_wp2_with (go_at_call 110; refine (l1In_any _ _ _ _).mono ?_; rintro e w' ⟨rfl, rfl⟩; rw [inB_f (by omega)])
  go_ret
  exact ⟨rfl, (by repeat (first | exact Below.refl _ _ | with_reducible assumption | (refine Below.drew ?_) | (refine Below.drewN ?_ _) | (refine Below.alloc ?_ (by simp; try omega) _) | (refine Below.setCell ?_ (by simp; try omega) _)))⟩
theorem isAdd_any (n : Int) (w : World) : Calls Try.prog 139 #[.int .i64 n] w (Pure (.bool (inB n (-1000) 1000)) w) := by
  go_enter Try.func139, Try.ntmps139
  go_wp2_with fail
  refine (within_any _ _ _ _).mono ?_
  rintro e w' ⟨rfl, rfl⟩
  go_wp2_with fail
  go_ret
  exact ⟨rfl, rfl⟩
theorem sectionSize_any (p : SV) (w : World) (hz : p.zs.length ≤ maxLen) : Calls Try.prog 43 #[.agg #[.string p.nm, .int .i64 p.kd, .int .i64 p.al, .slice p.A p.zs.length p.c, .int .i64 p.sz, .slice p.F p.fs.length p.fc]] w (Ret (.int .i64 (secSize p.d)) w) := by
  unfold maxLen at hz
  by_cases h : p.kd = 3
  · have hv : secSize p.d = p.sz := if_pos h
    rw [hv, h]
    go_enter Try.func43, Try.ntmps43
    go_wp2
    go_ret
    exact ⟨rfl, (by repeat (first | exact Below.refl _ _ | with_reducible assumption | (refine Below.drew ?_) | (refine Below.drewN ?_ _) | (refine Below.alloc ?_ (by simp; try omega) _) | (refine Below.setCell ?_ (by simp; try omega) _)))⟩
  · have hv : secSize p.d = p.zs.length := if_neg h
    rw [hv]
    have e1 : (p.kd == 3) = false := beq_eq_false_iff_ne.2 h
    go_enter Try.func43, Try.ntmps43
    go_wp2
    go_ret
    exact ⟨rfl, (by repeat (first | exact Below.refl _ _ | with_reducible assumption | (refine Below.drew ?_) | (refine Below.drewN ?_ _) | (refine Below.alloc ?_ (by simp; try omega) _) | (refine Below.setCell ?_ (by simp; try omega) _)))⟩
theorem sectionSizeS_any (p : SV) (w : World) (hz : p.zs.length ≤ maxLen) : Calls Try.prog 46 #[.agg #[.string p.nm, .int .i64 p.kd, .int .i64 p.al, .slice p.A p.zs.length p.c, .int .i64 p.sz, .slice p.F p.fs.length p.fc]] w (Ret (.int .i64 (secSize p.d)) w) := by
  unfold maxLen at hz
  by_cases h : p.kd = 3
  · have hv : secSize p.d = p.sz := if_pos h
    rw [hv, h]
    go_enter Try.func46, Try.ntmps46
    go_wp2
    go_ret
    exact ⟨rfl, (by repeat (first | exact Below.refl _ _ | with_reducible assumption | (refine Below.drew ?_) | (refine Below.drewN ?_ _) | (refine Below.alloc ?_ (by simp; try omega) _) | (refine Below.setCell ?_ (by simp; try omega) _)))⟩
  · have hv : secSize p.d = p.zs.length := if_neg h
    rw [hv]
    have e1 : (p.kd == 3) = false := beq_eq_false_iff_ne.2 h
    go_enter Try.func46, Try.ntmps46
    go_wp2
    go_ret
    exact ⟨rfl, (by repeat (first | exact Below.refl _ _ | with_reducible assumption | (refine Below.drew ?_) | (refine Below.drewN ?_ _) | (refine Below.alloc ?_ (by simp; try omega) _) | (refine Below.setCell ?_ (by simp; try omega) _)))⟩
end Go.Proofs.Ytmglgjchemecjaa.CSecValid
