/- Contracts of ZigZag and UnZigZag, the program's and the reference's. -/
import Derived.Test.YtndnmbhhfiacaaaCCode
namespace Go.Proofs.Ytndnmbhhfiacaaa.CZig
set_option maxRecDepth 200000
open Go.ChangeShapes Go.WideShapes Go.ChangeAt Go.RowKit Kit CCode
def zig (n : Int) : Int := if inB n (-134217727) 134217727 then (if 0 ≤ n then 2 * n else -1 - 2 * n) else -1
theorem zigZag_any (n : Int) (w : World) : Calls Try.prog 132 #[.int .i64 n] w (Pure (.int .i64 (zig n)) w) := by
  by_cases h : -134217727 ≤ n ∧ n ≤ 134217727
  · have hb := inB_t h
    by_cases h0 : 0 ≤ n
    all_goals have hz := hide h0
    all_goals
      go_enter Try.func132, Try.ntmps132
      go_wp2_with (first | (go_at_call 109; refine (within_any _ _ _ _).mono ?_; rintro e w' ⟨rfl, rfl⟩) | (go_at_call 128; refine (hasArg_any _ _).mono ?_; rintro e w' ⟨rfl, rfl⟩) | (go_at_call 110; refine (l1In_any _ _ _ _).mono ?_; rintro e w' ⟨rfl, rfl⟩) | (go_at_call 129; refine (l29Has_any _ _).mono ?_; rintro e w' ⟨rfl, rfl⟩) | fail)
      go_ret
      exact ⟨ret_int (by rw [zig, if_pos hb]; first | rw [if_pos hz.out] | rw [if_neg (by have := hz.out; omega)]), rfl⟩
  · have hb := inB_f h
    go_enter Try.func132, Try.ntmps132
    go_wp2_with (first | (go_at_call 109; refine (within_any _ _ _ _).mono ?_; rintro e w' ⟨rfl, rfl⟩) | (go_at_call 128; refine (hasArg_any _ _).mono ?_; rintro e w' ⟨rfl, rfl⟩) | (go_at_call 110; refine (l1In_any _ _ _ _).mono ?_; rintro e w' ⟨rfl, rfl⟩) | (go_at_call 129; refine (l29Has_any _ _).mono ?_; rintro e w' ⟨rfl, rfl⟩) | fail)
    go_ret
    exact ⟨ret_int (by rw [zig, hb]; rfl), rfl⟩
def unzig (n : Int) : Int := if 0 ≤ n ∧ n ≤ 268435454 then (if n % 2 = 1 then -((n + 1) / 2) else n / 2) else 0
theorem unZigZag_any (n : Int) (w : World) (lo : -9223372036854775808 ≤ n) (hi : n ≤ 9223372036854775807) :
    Calls Try.prog 134 #[.int .i64 n] w (Pure (.tuple #[.int .i64 (unzig n), .bool (inB n 0 268435454)]) w) := by
  by_cases h : 0 ≤ n ∧ n ≤ 268435455
  · obtain ⟨k, hk | hk⟩ : ∃ k, n = 2 * k ∨ n = 2 * k + 1 := ⟨n / 2, by omega⟩
    · subst hk
      have hb := inB_t h
      have b1 : 0 ≤ k := by omega
      have b2 : k ≤ 134217727 := by omega
      have e1 : 2 * k / 2 = k := by omega
      have e2 : 2 * k % 2 = 0 := by omega
      have hr := hide (show unzig (2 * k) = k by unfold unzig; rw [if_pos (by omega), if_neg (by omega)]; omega)
      have hi' := hide (inB_t (n := 2 * k) (lo := 0) (hi := 268435454) (by omega))
      have hz : zig k = 2 * k := by rw [zig, if_pos (inB_t (by omega)), if_pos b1]
      clear lo hi h
      go_enter Try.func134, Try.ntmps134
      go_wp2_with (first | (first | (go_at_call 109; refine (within_any _ _ _ _).mono ?_; rintro e w' ⟨rfl, rfl⟩) | (go_at_call 128; refine (hasArg_any _ _).mono ?_; rintro e w' ⟨rfl, rfl⟩) | (go_at_call 110; refine (l1In_any _ _ _ _).mono ?_; rintro e w' ⟨rfl, rfl⟩) | (go_at_call 129; refine (l29Has_any _ _).mono ?_; rintro e w' ⟨rfl, rfl⟩) | fail) | (go_at_call 132; refine (zigZag_any _ _).mono ?_; rintro e w' ⟨rfl, rfl⟩))
      go_ret2
      exact ⟨by rw [hr.out, hi'.out]; rfl, rfl⟩
    · subst hk
      have hb := inB_t h
      have b1 : 0 ≤ k := by omega
      have b2 : k ≤ 134217727 := by omega
      have e1 : (-(2 * k + 1 + 1)).tdiv 2 = -k - 1 := by
        rw [Int.neg_tdiv, Int.tdiv_eq_ediv_of_nonneg (by omega)]; omega
      have e2 : (2 * k + 1) % 2 = 1 := by omega
      by_cases hm : k = 134217727
      · subst hm
        clear hb b1 b2 e1 e2 h lo hi
        have hz : zig (-134217728) = -1 := by decide
        have hb : inB 268435455 0 268435455 = true := by decide
        show Calls _ _ #[.int .i64 268435455] _ (Pure (.tuple #[.int .i64 0, .bool false]) w)
        go_enter Try.func134, Try.ntmps134
        go_wp2_with (first | (first | (go_at_call 109; refine (within_any _ _ _ _).mono ?_; rintro e w' ⟨rfl, rfl⟩) | (go_at_call 128; refine (hasArg_any _ _).mono ?_; rintro e w' ⟨rfl, rfl⟩) | (go_at_call 110; refine (l1In_any _ _ _ _).mono ?_; rintro e w' ⟨rfl, rfl⟩) | (go_at_call 129; refine (l29Has_any _ _).mono ?_; rintro e w' ⟨rfl, rfl⟩) | fail) | (go_at_call 132; refine (zigZag_any _ _).mono ?_; rintro e w' ⟨rfl, rfl⟩))
        go_ret2
        exact ⟨rfl, rfl⟩
      · have hz : zig (-k - 1) = 2 * k + 1 := by rw [zig, if_pos (inB_t (by omega)), if_neg (by omega)]; omega
        have hr := hide (show unzig (2 * k + 1) = -k - 1 by unfold unzig; rw [if_pos (by omega), if_pos (by omega)]; omega)
        have hi' := hide (inB_t (n := 2 * k + 1) (lo := 0) (hi := 268435454) (by omega))
        clear lo hi h
        go_enter Try.func134, Try.ntmps134
        go_wp2_with (first | (first | (go_at_call 109; refine (within_any _ _ _ _).mono ?_; rintro e w' ⟨rfl, rfl⟩) | (go_at_call 128; refine (hasArg_any _ _).mono ?_; rintro e w' ⟨rfl, rfl⟩) | (go_at_call 110; refine (l1In_any _ _ _ _).mono ?_; rintro e w' ⟨rfl, rfl⟩) | (go_at_call 129; refine (l29Has_any _ _).mono ?_; rintro e w' ⟨rfl, rfl⟩) | fail) | (go_at_call 132; refine (zigZag_any _ _).mono ?_; rintro e w' ⟨rfl, rfl⟩))
        go_ret2
        exact ⟨by rw [hr.out, hi'.out]; rfl, rfl⟩
  · have hb := inB_f h
    have hr := hide (show unzig n = 0 by unfold unzig; rw [if_neg (by omega)])
    have hi' := hide (inB_f (n := n) (lo := 0) (hi := 268435454) (by omega))
    go_enter Try.func134, Try.ntmps134
    go_wp2_with (first | (first | (go_at_call 109; refine (within_any _ _ _ _).mono ?_; rintro e w' ⟨rfl, rfl⟩) | (go_at_call 128; refine (hasArg_any _ _).mono ?_; rintro e w' ⟨rfl, rfl⟩) | (go_at_call 110; refine (l1In_any _ _ _ _).mono ?_; rintro e w' ⟨rfl, rfl⟩) | (go_at_call 129; refine (l29Has_any _ _).mono ?_; rintro e w' ⟨rfl, rfl⟩) | fail) | (go_at_call 132; refine (zigZag_any _ _).mono ?_; rintro e w' ⟨rfl, rfl⟩))
    go_ret2
    exact ⟨by rw [hr.out, hi'.out]; rfl, rfl⟩
theorem unZigZagS_any (n : Int) (w : World) (lo : -9223372036854775808 ≤ n) (hi : n ≤ 9223372036854775807) :
    Calls Try.prog 135 #[.int .i64 n] w (Pure (.tuple #[.int .i64 (unzig n), .bool (inB n 0 268435454)]) w) := by
  by_cases h0 : n < 0
  · have hr := hide (show unzig n = 0 by unfold unzig; rw [if_neg (by omega)])
    have hi' := hide (inB_f (n := n) (lo := 0) (hi := 268435454) (by omega))
    go_enter Try.func135, Try.ntmps135
    go_wp2
    go_ret2
    exact ⟨by rw [hr.out, hi'.out]; rfl, rfl⟩
  by_cases h1 : 268435454 < n
  · have hr := hide (show unzig n = 0 by unfold unzig; rw [if_neg (by omega)])
    have hi' := hide (inB_f (n := n) (lo := 0) (hi := 268435454) (by omega))
    go_enter Try.func135, Try.ntmps135
    go_wp2
    go_ret2
    exact ⟨by rw [hr.out, hi'.out]; rfl, rfl⟩
  have b0 : 0 ≤ n := by omega
  have b1 : n ≤ 268435454 := by omega
  have hi' := hide (inB_t (n := n) (lo := 0) (hi := 268435454) (by omega))
  by_cases h2 : n % 2 = 1
  · have hr := hide (show unzig n = wrap64 (-(n + 1).tdiv 2) by rw [Int.tdiv_eq_ediv_of_nonneg (by omega), IntWalk.wrap64_in _ ⟨by omega, by omega⟩]; unfold unzig; rw [if_pos (by omega), if_pos (by omega)])
    clear h0 h1 lo hi
    go_enter Try.func135, Try.ntmps135
    go_wp2
    go_ret2
    exact ⟨by rw [hr.out, hi'.out]; rfl, rfl⟩
  · have hr := hide (show unzig n = n / 2 by unfold unzig; rw [if_pos (by omega), if_neg (by omega)])
    have h3 : (n % 2 == 1) = false := by simpa using h2
    clear h0 h1 lo hi h2
    go_enter Try.func135, Try.ntmps135
    go_wp2
    go_ret2
    exact ⟨by rw [hr.out, hi'.out]; rfl, rfl⟩
theorem zigZagS_any (n : Int) (w : World) : Calls Try.prog 133 #[.int .i64 n] w (Pure (.int .i64 (zig n)) w) := by
  by_cases h : -134217727 ≤ n ∧ n ≤ 134217727
  · have hb := inB_t h
    by_cases h0 : 0 ≤ n
    all_goals have hz := hide h0
    all_goals
      go_enter Try.func133, Try.ntmps133
      go_wp2_with (first | (go_at_call 109; refine (within_any _ _ _ _).mono ?_; rintro e w' ⟨rfl, rfl⟩) | (go_at_call 128; refine (hasArg_any _ _).mono ?_; rintro e w' ⟨rfl, rfl⟩) | (go_at_call 110; refine (l1In_any _ _ _ _).mono ?_; rintro e w' ⟨rfl, rfl⟩) | (go_at_call 129; refine (l29Has_any _ _).mono ?_; rintro e w' ⟨rfl, rfl⟩) | fail)
      go_ret
      exact ⟨ret_int (by rw [zig, if_pos hb]; first | rw [if_pos hz.out] | rw [if_neg (by have := hz.out; omega)]), rfl⟩
  · have hb := inB_f h
    go_enter Try.func133, Try.ntmps133
    go_wp2_with (first | (go_at_call 109; refine (within_any _ _ _ _).mono ?_; rintro e w' ⟨rfl, rfl⟩) | (go_at_call 128; refine (hasArg_any _ _).mono ?_; rintro e w' ⟨rfl, rfl⟩) | (go_at_call 110; refine (l1In_any _ _ _ _).mono ?_; rintro e w' ⟨rfl, rfl⟩) | (go_at_call 129; refine (l29Has_any _ _).mono ?_; rintro e w' ⟨rfl, rfl⟩) | fail)
    go_ret
    exact ⟨ret_int (by rw [zig, hb]; rfl), rfl⟩
theorem zig_bd (n : Int) : -1 ≤ zig n ∧ zig n ≤ 268435454 := by
  unfold zig
  by_cases h : -134217727 ≤ n ∧ n ≤ 134217727
  · rw [if_pos (inB_t h)]
    split <;> omega
  · rw [inB_f h]
    simp
theorem unzig_bd (n : Int) : -134217727 ≤ unzig n ∧ unzig n ≤ 134217727 := by
  unfold unzig
  split
  · split <;> omega
  · omega
theorem zig_unzig {n : Int} (h : 0 ≤ n ∧ n ≤ 268435454) : zig (unzig n) = n := by
  unfold unzig
  rw [if_pos h]
  split
  · rw [zig, if_pos (inB_t (by omega)), if_neg (by omega)]; omega
  · rw [zig, if_pos (inB_t (by omega)), if_pos (by omega)]; omega
theorem unzig_zig {n : Int} (h : -134217727 ≤ n ∧ n ≤ 134217727) : unzig (zig n) = n ∧ inB (zig n) 0 268435454 = true := by
  unfold zig
  rw [if_pos (inB_t h)]
  by_cases h0 : 0 ≤ n
  · rw [if_pos h0]
    refine ⟨?_, inB_t (by omega)⟩
    unfold unzig
    rw [if_pos (by omega), if_neg (by omega)]
    omega
  · rw [if_neg h0]
    refine ⟨?_, inB_t (by omega)⟩
    unfold unzig
    rw [if_pos (by omega), if_pos (by omega)]
    omega
end Go.Proofs.Ytndnmbhhfiacaaa.CZig
