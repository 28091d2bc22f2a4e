/- The walk of FnUnZigZag: numbers have a sign or not. -/
import Derived.Test.YtckfffhionhnkaaDInts
import Derived.Test.YtckfffhionhnkaaCZig
import Derived.Test.YtckfffhionhnkaaCAlive
namespace Go.Proofs.Ytckfffhionhnkaa.WFnUnZigZag
set_option maxRecDepth 200000
open Go.ChangeShapes Go.WideShapes Go.ChangeAt Go.RowKit Kit CCode CZig DPick DVar DInts CAlive
theorem walk (A : Option Addr) (zs : List Int) (c : Nat) (hl : zs.length ≤ c) (hc : c ≤ maxLen) (hz : InR 0 255 zs) (w : World) (hr : Rd w w.heap.size A (ints .u8 zs)) :
    Calls Try.prog 12 #[.slice A zs.length c] w (LawEnds w) := by
  have hcm := hc
  unfold maxLen at hcm
  have HD := hide (drawUnZigZag_any hr hz hl hc)
  clear hr hz hc
  by_cases hbig : 1048576 < zs.length
  · go_enter Try.func12, Try.ntmps12
    go_wp2_with fail
    go_ret
    exact ⟨rfl, Below.refl _ _⟩
  go_enter Try.func12, Try.ntmps12
  go_wp2_with fail
  refine HD.out.mono ?_
  rintro e w1 ⟨n, rfl, n0, n1, b1⟩
  have HB := hide b1
  clear b1
  go_wp2_with fail
  refine (unZigZag_any n w1 (by omega) (by omega)).mono ?_
  rintro e w' ⟨rfl, rfl⟩
  go_wp2_with fail
  refine (unZigZagS_any n w1 (by omega) (by omega)).mono ?_
  rintro e w' ⟨rfl, rfl⟩
  by_cases hn : 0 ≤ n ∧ n ≤ 268435454
  · have hi := inB_t hn
    have hu := zig_unzig hn
    have hs : (0 ≤ unzig n) ↔ n % 2 = 0 := by
      unfold unzig
      rw [if_pos hn]
      split <;> omega
    have hub := unzig_bd n
    rw [hi]
    have HU := hide hu
    clear hu hi
    generalize unzig n = m at *
    have HS := hide hs
    clear hs
    go_wp2_with fail
    refine (zigZag_any m w1).mono ?_
    rintro e w' ⟨rfl, rfl⟩
    rw [HU.out]
    by_cases h2 : n % 2 = 0
    · have hm : 0 ≤ m := HS.out.2 h2
      clear HS HU
      go_wp2_with fail
      go_ret
      exact ⟨rfl, HB.out⟩
    · have hm : ¬ 0 ≤ m := fun h => h2 (HS.out.1 h)
      have h2' : n % 2 = 1 := by omega
      clear HS HU h2
      go_wp2_with fail
      go_ret
      exact ⟨ret_bool (by simp; omega), HB.out⟩
  · have hm : unzig n = 0 := by unfold unzig; rw [if_neg hn]
    have hi := inB_f hn
    rw [hm, hi]
    go_wp2_with fail
    refine (alive_any w1).mono ?_
    rintro e w' ⟨rfl, rfl⟩
    go_wp2_with fail
    go_ret
    exact ⟨rfl, HB.out⟩
end Go.Proofs.Ytckfffhionhnkaa.WFnUnZigZag
