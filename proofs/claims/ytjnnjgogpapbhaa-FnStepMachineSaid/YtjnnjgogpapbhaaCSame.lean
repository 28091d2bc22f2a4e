/- Contracts of the laws' comparisons of lists. -/
import Derived.Test.YtjnnjgogpapbhaaBase
import Derived.Deep.QuietTactic
import Derived.BigQuiet
import Derived.Test.YtjnnjgogpapbhaaRows
namespace Go.Proofs.Ytjnnjgogpapbhaa.CSame
set_option maxRecDepth 200000
open Go.ChangeShapes Go.WideShapes Go.ChangeAt Go.RowKit Kit
theorem sameInts_any (A A' : Option Addr) (xs ys : List Int) (c c' B : Nat) (w : World) (hr : Rd w B A (ints .i64 xs)) (hr' : Rd w B A' (ints .i64 ys)) (hm : xs.length ≤ maxLen) (hm' : ys.length ≤ maxLen) :
    Calls Try.prog 64 #[.slice A xs.length c, .slice A' ys.length c'] w fun e w' => e = .returned (.bool (xs == ys)) ∧ ∃ n, w' = w.drewN n := by
  unfold maxLen at hm hm'
  by_cases hl : xs.length = ys.length
  · have h0 : (((xs.length : Nat) : Int) != (ys.length : Nat)) = false := by simp; omega
    go_enter Try.func64, Try.ntmps64
    go_wp2
    clear h0
    have HL := hide hl
    go_loopw [5] (fun i wr => ∃ k : Nat, k ≤ xs.length ∧ i = .int .i64 k ∧ xs.take k = ys.take k ∧ ∃ n, wr = w.drewN n) (fun i _ => xs.length - (intOf i).toNat)
    case atStart => exact ⟨0, Nat.zero_le _, rfl, rfl, 0, rfl⟩
    case round =>
      obtain ⟨k, hk, rfl, he, n, rfl⟩ := hrel
      have HE := hide he
      clear he hl
      by_cases hlt : k < xs.length
      · obtain ⟨b, off, rfl, _, hc⟩ := hr.int hlt
        obtain ⟨b', off', rfl, _, hc'⟩ := hr'.int (i := k) (by have := HL.out; omega)
        clear hr hr'
        have hlt' : k < ys.length := by have := HL.out; omega
        by_cases hxy : xs[k] = ys[k]
        · have HE' := hide (show xs.take (k + 1) = ys.take (k + 1) by rw [take_succ hlt, take_succ hlt', HE.out, hxy])
          have hn : (xs[k] != ys[k]) = false := by simpa using hxy
          clear hxy
          go_wp2_with fail
          go_quiet (fail)
          go_wp2
          go_roundw
          case rel => exact ⟨k + 1, by omega, by go_num, HE'.out, _, rfl⟩
          case measure => simp [intOf]; omega
        · have hn : (xs[k] != ys[k]) = true := by simpa using hxy
          have HF := hide (show (xs == ys) = false by
            apply beq_eq_false_iff_ne.2
            intro e
            subst e
            exact hxy rfl)
          clear hxy
          go_wp2_with fail
          go_quiet (fail)
          go_wp2
          go_ret
          exact ⟨ret_bool HF.out.symm, _, World.drewN_drewN ..⟩
      · have HF := hide (show (xs == ys) = true by
          have e := HE.out
          have := HL.out
          rw [List.take_of_length_le (by omega), List.take_of_length_le (by omega)] at e
          subst e
          simp)
        clear hr hr'
        go_wp2
        go_ret
        exact ⟨ret_bool HF.out.symm, _, rfl⟩
  · have h1 : (((xs.length : Nat) : Int) != (ys.length : Nat)) = true := by simp; omega
    have h2 : (xs == ys) = false := by simp; intro e; exact hl (by rw [e])
    have H2 := hide h2
    clear h2 hl
    go_enter Try.func64, Try.ntmps64
    go_wp2
    go_ret
    exact ⟨ret_bool H2.out.symm, 0, rfl⟩
end Go.Proofs.Ytjnnjgogpapbhaa.CSame
