/- Contracts of SumOf, the program's and the reference's. -/
import Derived.Test.YtndnmbhhfiacaaaBase
import Derived.Test.YtndnmbhhfiacaaaRows
namespace Go.Proofs.Ytndnmbhhfiacaaa.CSumOf
set_option maxRecDepth 200000
open Go.ChangeShapes Go.WideShapes Go.ChangeAt Go.RowKit Kit
def sums : List Int → Int × Int → Int × Int
  | [], s => s
  | x :: r, (a, b) => sums r ((a + x) % 251, (b + (a + x) % 251) % 251)
theorem sums_snoc (l : List Int) (x : Int) (s : Int × Int) : sums (l ++ [x]) s = (((sums l s).1 + x) % 251, ((sums l s).2 + ((sums l s).1 + x) % 251) % 251) := by
  induction l generalizing s with
  | nil => rfl
  | cons y r ih => exact ih _
theorem sums_bd (l : List Int) (s : Int × Int) (h : 0 ≤ s.1 ∧ s.1 ≤ 250 ∧ 0 ≤ s.2 ∧ s.2 ≤ 250) : 0 ≤ (sums l s).1 ∧ (sums l s).1 ≤ 250 ∧ 0 ≤ (sums l s).2 ∧ (sums l s).2 ≤ 250 := by
  induction l generalizing s with
  | nil => exact h
  | cons y r ih => exact ih _ ⟨by dsimp only; omega, by dsimp only; omega, by dsimp only; omega, by dsimp only; omega⟩
def sumA (l : List Int) : Int := (sums l (1, 0)).1
def sumB (l : List Int) : Int := (sums l (1, 0)).2
def sumOf (l : List Int) : Int := 256 * sumB l + sumA l
theorem sum_bd (l : List Int) : 0 ≤ sumA l ∧ sumA l ≤ 250 ∧ 0 ≤ sumB l ∧ sumB l ≤ 250 := sums_bd l (1, 0) (by decide)
theorem sumA_snoc (l : List Int) (x : Int) : sumA (l ++ [x]) = (sumA l + x) % 251 := by unfold sumA; rw [sums_snoc]
theorem sumB_snoc (l : List Int) (x : Int) : sumB (l ++ [x]) = (sumB l + (sumA l + x) % 251) % 251 := by unfold sumA sumB; rw [sums_snoc]
theorem sumOf_any (A : Option Addr) (zs : List Int) (c B : Nat) (w : World) (hr : Rd w B A (ints .u8 zs)) (hz : InR 0 255 zs) (hm : zs.length ≤ maxLen) :
    Calls Try.prog 26 #[.slice A zs.length c] w (Pure (.int .i64 (sumOf zs)) w) := by
  unfold maxLen at hm
  go_enter Try.func26, Try.ntmps26
  go_wp2
  go_loop [3, 4, 9] (fun a b i => ∃ k : Nat, k ≤ zs.length ∧ i = .int .i64 k ∧ a = .int .i64 (sumA (zs.take k)) ∧ b = .int .i64 (sumB (zs.take k))) (fun _ _ i => zs.length - (intOf i).toNat)
  case atStart => exact ⟨0, Nat.zero_le _, rfl, rfl, rfl⟩
  case round =>
    obtain ⟨k, hk, rfl, rfl, rfl⟩ := hrel
    obtain ⟨a0, a1, b0, b1⟩ := sum_bd (zs.take k)
    by_cases hlt : k < zs.length
    · obtain ⟨b, off, rfl, _, hc⟩ := hr.int hlt
      obtain ⟨z0, z1⟩ := hz.at_ hlt
      have HA := hide (sumA_snoc (zs.take k) zs[k])
      have HB := hide (sumB_snoc (zs.take k) zs[k])
      rw [← take_succ hlt] at HA HB
      generalize zs[k] = z at *
      clear hr hz
      go_wp2
      go_round
      case rel => exact ⟨k + 1, by omega, by go_num, by rw [HA.out], by rw [HB.out]⟩
      case measure => simp [intOf]; omega
    · have e : zs.take k = zs := List.take_of_length_le (by omega)
      rw [e] at a0 a1 b0 b1 ⊢
      clear hr hz e
      go_wp2
      go_ret
      exact ⟨rfl, rfl⟩
theorem sumOfS_any (A : Option Addr) (zs : List Int) (c B : Nat) (w : World) (hr : Rd w B A (ints .u8 zs)) (hz : InR 0 255 zs) (hm : zs.length ≤ maxLen) :
    Calls Try.prog 27 #[.slice A zs.length c] w (Pure (.int .i64 (sumOf zs)) w) := by
  unfold maxLen at hm
  go_enter Try.func27, Try.ntmps27
  go_wp2
  go_loop [3, 4, 5] (fun a b i => ∃ k : Nat, k ≤ zs.length ∧ i = .int .i64 k ∧ a = .int .i64 (sumA (zs.take k)) ∧ b = .int .i64 (sumB (zs.take k))) (fun _ _ i => zs.length - (intOf i).toNat)
  case atStart => exact ⟨0, Nat.zero_le _, rfl, rfl, rfl⟩
  case round =>
    obtain ⟨k, hk, rfl, rfl, rfl⟩ := hrel
    obtain ⟨a0, a1, b0, b1⟩ := sum_bd (zs.take k)
    by_cases hlt : k < zs.length
    · obtain ⟨b, off, rfl, _, hc⟩ := hr.int hlt
      obtain ⟨z0, z1⟩ := hz.at_ hlt
      have HA := hide (sumA_snoc (zs.take k) zs[k])
      have HB := hide (sumB_snoc (zs.take k) zs[k])
      rw [← take_succ hlt] at HA HB
      generalize zs[k] = z at *
      clear hr hz
      go_wp2
      go_round
      case rel => exact ⟨k + 1, by omega, by go_num, by rw [HA.out], by rw [HB.out]⟩
      case measure => simp [intOf]; omega
    · have e : zs.take k = zs := List.take_of_length_le (by omega)
      rw [e] at a0 a1 b0 b1 ⊢
      clear hr hz e
      go_wp2
      go_ret
      exact ⟨rfl, rfl⟩
end Go.Proofs.Ytndnmbhhfiacaaa.CSumOf
