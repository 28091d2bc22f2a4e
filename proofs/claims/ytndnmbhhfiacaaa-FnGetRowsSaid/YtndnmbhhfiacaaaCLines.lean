/- The contract of the laws' comparison of rows, on equal rows. -/
import Derived.Test.YtndnmbhhfiacaaaCRows
import Derived.Deep.QuietTactic
import Derived.BigQuiet
namespace Go.Proofs.Ytndnmbhhfiacaaa.CLines
set_option maxRecDepth 200000
open Go.ChangeShapes Go.WideShapes Go.ChangeAt Go.RowKit Kit CRows
theorem sameLines_same (A A' : Option Addr) (xs : List CRows.D) (c c' B : Nat) (w : World) (hr : Rd w B A (cellsOf rowC xs)) (hr' : Rd w B A' (cellsOf rowC xs)) (hm : xs.length ≤ maxLen) :
    Calls Try.prog 79 #[.slice A xs.length c, .slice A' xs.length c'] w fun e w' => e = .returned (.bool true) ∧ ∃ n, w' = w.drewN n := by
  unfold maxLen at hm
  go_enter Try.func79, Try.ntmps79
  go_wp2
  go_loopw [5] (fun i wr => ∃ k : Nat, k ≤ xs.length ∧ i = .int .i64 k ∧ ∃ n, wr = w.drewN n) (fun i _ => xs.length - (intOf i).toNat)
  case atStart => exact ⟨0, Nat.zero_le _, rfl, 0, rfl⟩
  case round =>
    obtain ⟨k, hk, rfl, n, rfl⟩ := hrel
    by_cases hlt : k < xs.length
    · obtain ⟨b, off, rfl, _, hc⟩ := hr.row rowC_len (by decide) hlt
      obtain ⟨b', off', rfl, _, hc'⟩ := hr'.row rowC_len (by decide) hlt
      have q0 := hc 0 _ rfl
      have q1 := hc 1 _ rfl
      have p0 := hc' 0 _ rfl
      have p1 := hc' 1 _ rfl
      simp only [Nat.add_zero] at q0 p0
      clear hr hr' hc hc'
      generalize xs[k] = z at *
      go_wp2_with fail
      go_quiet (fail)
      go_wp2
      go_roundw
      case rel => exact ⟨k + 1, by omega, by go_num, _, rfl⟩
      case measure => simp [intOf]; omega
    · clear hr hr'
      go_wp2
      go_ret
      exact ⟨rfl, _, rfl⟩
end Go.Proofs.Ytndnmbhhfiacaaa.CLines
