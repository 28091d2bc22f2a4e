/- The walk of FnVarSize: greater numbers have not fewer bytes. -/
import Derived.Test.YtckfffhionhnkaaDInts
import Derived.Test.YtckfffhionhnkaaPRows
import Derived.Test.YtckfffhionhnkaaCAlive
namespace Go.Proofs.Ytckfffhionhnkaa.WFnVarSize
set_option maxRecDepth 200000
open Go.ChangeShapes Go.WideShapes Go.ChangeAt Go.RowKit Kit CCode PVar CPutVar PRows DPick DVar DInts CAlive
theorem twice (n : Nat) : ∀ k, (k = 2 * n ∨ k = 2 * n + 1) → (varN k).length = (varN n).length ∨ (varN k).length = (varN n).length + 1 := by
  induction n using Nat.strongRecOn with
  | _ n ih =>
    intro k hk
    by_cases h : 127 < n
    · rw [varN_pos h, varN_pos (show 127 < k by omega)]
      rcases ih (n / 128) (by omega) (k / 128) (by omega) with h | h
      · left; simp [h]
      · right; simp [h]
    · rw [varN_one (n := n) (by omega)]
      by_cases h2 : 127 < k
      · rw [varN_pos h2, varN_one (by omega)]
        right; simp
      · rw [varN_one (by omega)]
        left; simp
theorem sizes (n : Int) (h0 : -1 ≤ n) : ((var n).length = 0 ∨ (var n).length ≠ 0 ∧ ((var (2 * n)).length = 0 ∨ (var (2 * n)).length = (var n).length ∨ (var (2 * n)).length = (var n).length + 1)) := by
  by_cases h : 0 ≤ n ∧ n ≤ 268435455
  · right
    obtain ⟨m, rfl⟩ := Int.eq_ofNat_of_zero_le h.1
    have := varN_pos0 m
    rw [var_nat (by omega)]
    refine ⟨by omega, ?_⟩
    by_cases h2 : 2 * (m : Int) ≤ 268435455
    · right
      rw [show 2 * (m : Int) = ((2 * m : Nat) : Int) by omega, var_nat (by omega)]
      exact twice m _ (.inl rfl)
    · left
      rw [var, inB_f (by omega)]
      rfl
  · left
    rw [var, inB_f h]
    rfl
theorem walk (A : Option Addr) (zs : List Int) (c : Nat) (hl : zs.length ≤ c) (hc : c ≤ maxLen) (hz : InR 0 255 zs) (w : World) (hr : Rd w w.heap.size A (ints .u8 zs)) :
    Calls Try.prog 16 #[.slice A zs.length c] w (LawEnds w) := by
  have hcm := hc
  unfold maxLen at hcm
  have HD := hide (drawVarSize_any hr hz hl hc)
  clear hr hz hc
  by_cases hbig : 1048576 < zs.length
  · go_enter Try.func16, Try.ntmps16
    go_wp2_with fail
    go_ret
    exact ⟨rfl, Below.refl _ _⟩
  go_enter Try.func16, Try.ntmps16
  go_wp2_with fail
  refine HD.out.mono ?_
  rintro e w1 ⟨n, rfl, n0, n1, b1⟩
  have HB := hide b1
  clear b1
  go_wp2_with fail
  refine (varSize_any n w1).mono ?_
  rintro e w2 ⟨rfl, b2⟩
  have HB2 := hide (HB.out.trans (b2.mono HB.out.size))
  clear b2
  go_wp2_with fail
  refine (varSizeS_any n w2).mono ?_
  rintro e w3 ⟨rfl, b3⟩
  have HB3 := hide (HB2.out.trans (b3.mono HB2.out.size))
  clear b3
  have hl4 := var_len4 n
  have hl5 := var_len4 (2 * n)
  rcases sizes n n0 with h0 | ⟨h0, h1⟩
  · rw [h0]
    go_wp2_with fail
    refine (alive_any w3).mono ?_
    rintro e w' ⟨rfl, rfl⟩
    go_wp2_with fail
    go_ret
    exact ⟨rfl, HB3.out⟩
  · have hM := hide (putVar_any n)
    have hV := hide (varSize_any (2 * n))
    generalize hm : (var n).length = m at *
    generalize hk : (var (2 * n)).length = k at *
    have HM := hide hm
    clear hm hk
    have hne : ((m : Int) == 0) = false := by simp; omega
    go_wp2_with fail
    refine (hV.out w3).mono ?_
    rintro e w4 ⟨rfl, b4⟩
    have HB4 := hide (HB3.out.trans (b4.mono HB3.out.size))
    clear b4
    go_wp2_with fail
    refine (hM.out w4).mono ?_
    rintro e w5 ⟨A5, c5, rfl, o5, b5⟩
    have HB5 := hide (HB4.out.trans (b5.mono HB4.out.size))
    clear b5 o5
    rw [HM.out]
    go_wp2_with fail
    all_goals (go_ret; exact ⟨ret_bool (by first | rfl | (simp; done) | (simp; omega) | omega), HB5.out⟩)
end Go.Proofs.Ytckfffhionhnkaa.WFnVarSize
