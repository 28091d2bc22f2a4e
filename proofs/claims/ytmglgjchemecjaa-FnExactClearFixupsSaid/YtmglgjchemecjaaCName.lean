/- Names that are valid: the program's and the reference's test. -/
import Derived.Test.YtmglgjchemecjaaCCode
import Derived.BigQuiet
namespace Go.Proofs.Ytmglgjchemecjaa.CName
set_option maxRecDepth 200000
open Go.ChangeShapes Go.WideShapes Go.ChangeAt Go.RowKit Kit CCode
/-- The byte c may stand at place k of a name. -/
def chOk (k : Nat) (x : Int) : Bool := decide (97 ≤ x ∧ x ≤ 122) || decide (x = 95) || decide (x = 46) || (decide (0 < k) && decide (48 ≤ x ∧ x ≤ 57))
def allOk (s : ByteArray) : Bool := (List.range s.size).all fun k => chOk k (s.data.toList.getD k 0).toNat
def nameOk (s : ByteArray) : Bool := allOk s && inB s.size 1 8
theorem all_false {s : ByteArray} {k : Nat} (h : k < s.size) (hc : chOk k (s.data.toList.getD k 0).toNat = false) : nameOk s = false := by
  rw [nameOk, allOk, List.all_eq_false.2 ⟨k, List.mem_range.2 h, by rw [hc]; decide⟩]
  rfl
theorem all_true {s : ByteArray} (h : ∀ k, k < s.size → chOk k (s.data.toList.getD k 0).toNat = true) : nameOk s = inB s.size 1 8 := by
  rw [nameOk, allOk, List.all_eq_true.2 (fun k hk => h k (List.mem_range.1 hk)), Bool.true_and]
theorem get_at (s : ByteArray) (k : Nat) (h : k < s.size) : s.data.toList.getD k 0 = s[k]'h := by
  obtain ⟨x⟩ := s
  show x.toList.getD k 0 = x[k]
  rw [List.getD_eq_getElem?_getD, Array.getElem?_toList, Array.getElem?_eq_getElem h]
  rfl
theorem classes (x : Int) : x < 46 ∨ x = 46 ∨ x = 47 ∨ (48 ≤ x ∧ x ≤ 57) ∨ (57 < x ∧ x < 95) ∨ x = 95 ∨ x = 96 ∨ (97 ≤ x ∧ x ≤ 122) ∨ 122 < x := by omega
set_option maxHeartbeats 4000000 in
theorem nameValid_any (s : ByteArray) (hs : s.size ≤ maxLen) (w : World) : Calls Try.prog 138 #[.string s] w (Pure (.bool (nameOk s)) w) := by
  unfold maxLen at hs
  go_enter Try.func138, Try.ntmps138
  go_wp2_with fail
  go_loop [6] (fun i => ∃ k : Nat, k ≤ s.size ∧ i = .int .i64 k ∧ ∀ j, j < k → chOk j (s.data.toList.getD j 0).toNat = true) (fun i => s.size - (intOf i).toNat)
  case atStart => exact ⟨0, Nat.zero_le _, rfl, fun j hj => absurd hj (Nat.not_lt_zero j)⟩
  case round =>
    obtain ⟨k, hk, rfl, hok⟩ := hrel
    have HO := hide hok
    clear hok
    by_cases hlt : k < s.size
    · have hg := get_at s k hlt
      have HN := hide (fun (h : chOk k (s[k]'hlt).toNat = true) => (show ∀ j, j < k + 1 → chOk j (s.data.toList.getD j 0).toNat = true from fun j hj => by
        rcases Nat.lt_or_ge j k with h' | h'
        · exact HO.out j h'
        · obtain rfl : j = k := by omega
          rw [hg]; exact h))
      have HF := hide (fun (h : chOk k (s[k]'hlt).toNat = false) => all_false hlt (by rw [hg]; exact h))
      have hx0 : (0 : Int) ≤ (s[k]'hlt).toNat := by omega
      clear HO hg
      go_wp2_with fail
      all_goals (try simp only [Bool.not_eq_false', Bool.not_eq_true', decide_eq_true_eq, decide_eq_false_iff_not, beq_iff_eq, beq_eq_false_iff_ne, ne_eq, Bool.not_not] at *)
      all_goals first
        | (refine ⟨⟨k + 1, by omega, by go_num, HN.out ?_⟩, by simp [intOf]; omega⟩
           simp only [chOk, Bool.or_eq_true, Bool.and_eq_true, decide_eq_true_eq]
           omega)
        | (have hF := HF.out (by rw [← Bool.not_eq_true]; simp only [chOk, Bool.or_eq_true, Bool.and_eq_true, decide_eq_true_eq]; omega)
           rw [hF]
           go_ret
           exact ⟨rfl, rfl⟩)
        | (exfalso; omega)
    · have HV := hide (all_true (s := s) (fun j hj => HO.out j (by omega)))
      clear HO
      go_wp2_with fail
      refine (within_any _ _ _ _).mono ?_
      rintro e w' ⟨rfl, rfl⟩
      rw [← HV.out]
      go_wp2_with fail
      go_ret
      exact ⟨rfl, rfl⟩
set_option maxHeartbeats 4000000 in
theorem nameValidS_any (s : ByteArray) (hs : s.size ≤ maxLen) (w : World) : Calls Try.prog 131 #[.string s] w (Pure (.bool (nameOk s)) w) := by
  unfold maxLen at hs
  go_enter Try.func131, Try.ntmps131
  go_wp2_with fail
  go_loop [3] (fun i => ∃ k : Nat, k ≤ s.size ∧ i = .int .i64 k ∧ ∀ j, j < k → chOk j (s.data.toList.getD j 0).toNat = true) (fun i => s.size - (intOf i).toNat)
  case atStart => exact ⟨0, Nat.zero_le _, rfl, fun j hj => absurd hj (Nat.not_lt_zero j)⟩
  case round =>
    obtain ⟨k, hk, rfl, hok⟩ := hrel
    have HO := hide hok
    clear hok
    by_cases hlt : k < s.size
    · have hg := get_at s k hlt
      have HN := hide (fun (h : chOk k (s[k]'hlt).toNat = true) => (show ∀ j, j < k + 1 → chOk j (s.data.toList.getD j 0).toNat = true from fun j hj => by
        rcases Nat.lt_or_ge j k with h' | h'
        · exact HO.out j h'
        · obtain rfl : j = k := by omega
          rw [hg]; exact h))
      have HF := hide (fun (h : chOk k (s[k]'hlt).toNat = false) => all_false hlt (by rw [hg]; exact h))
      have hx0 : (0 : Int) ≤ (s[k]'hlt).toNat := by omega
      clear HO hg
      go_wp2_with fail
      all_goals (try simp only [Bool.not_eq_false', Bool.not_eq_true', decide_eq_true_eq, decide_eq_false_iff_not, beq_iff_eq, beq_eq_false_iff_ne, ne_eq, Bool.not_not] at *)
      all_goals first
        | (refine ⟨⟨k + 1, by omega, by go_num, HN.out ?_⟩, by simp [intOf]; omega⟩
           simp only [chOk, Bool.or_eq_true, Bool.and_eq_true, decide_eq_true_eq]
           omega)
        | (have hF := HF.out (by rw [← Bool.not_eq_true]; simp only [chOk, Bool.or_eq_true, Bool.and_eq_true, decide_eq_true_eq]; omega)
           rw [hF]
           go_ret
           exact ⟨rfl, rfl⟩)
        | (exfalso; omega)
        | (exfalso
           have h48 : ((s[k]'hlt).toNat : Int) < 48 := by omega
           rename_i hq hw hb _ _ 
           simp_all)
    · have HV := hide (all_true (s := s) (fun j hj => HO.out j (by omega)))
      clear HO
      go_wp2_with fail
      refine (l1In_any _ _ _ _).mono ?_
      rintro e w' ⟨rfl, rfl⟩
      rw [← HV.out]
      go_wp2_with fail
      go_ret
      exact ⟨rfl, rfl⟩
end Go.Proofs.Ytmglgjchemecjaa.CName
