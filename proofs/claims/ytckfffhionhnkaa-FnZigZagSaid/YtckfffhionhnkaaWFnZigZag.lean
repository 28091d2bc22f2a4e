/- The walk of FnZigZag: the drawn number's sign is kept. -/
import Derived.Test.YtckfffhionhnkaaDInts
import Derived.Test.YtckfffhionhnkaaCZig
import Derived.Test.YtckfffhionhnkaaCAlive
namespace Go.Proofs.Ytckfffhionhnkaa.WFnZigZag
set_option maxRecDepth 200000
open Go.ChangeShapes Go.WideShapes Go.ChangeAt Go.RowKit Kit CCode CZig DPick DVar DInts CAlive
theorem walk (A : Option Addr) (zs : List Int) (c : Nat) (hl : zs.length ≤ c) (hc : c ≤ maxLen) (hz : InR 0 255 zs) (w : World) (hr : Rd w w.heap.size A (ints .u8 zs)) :
    Calls Try.prog 14 #[.slice A zs.length c] w (LawEnds w) := by
  have hcm := hc
  unfold maxLen at hcm
  have HD := hide (drawZigZag_any hr hz hl hc)
  clear hr hz hc
  by_cases hbig : 1048576 < zs.length
  · go_enter Try.func14, Try.ntmps14
    go_wp2_with fail
    go_ret
    exact ⟨rfl, Below.refl _ _⟩
  go_enter Try.func14, Try.ntmps14
  go_wp2_with fail
  refine HD.out.mono ?_
  rintro e w1 ⟨n, rfl, n0, n1, b1⟩
  have HB := hide b1
  clear b1
  go_wp2_with fail
  refine (zigZag_any n w1).mono ?_
  rintro e w' ⟨rfl, rfl⟩
  go_wp2_with fail
  refine (zigZagS_any n w1).mono ?_
  rintro e w' ⟨rfl, rfl⟩
  by_cases hn : -134217727 ≤ n ∧ n ≤ 134217727
  · obtain ⟨u1, u2⟩ := unzig_zig hn
    have hzz : zig n = if 0 ≤ n then 2 * n else -1 - 2 * n := by rw [zig, if_pos (inB_t hn)]
    have m0 : 0 ≤ zig n ∧ zig n ≤ 268435454 := by rw [hzz]; split <;> omega
    have hmx : zig n ≤ 2 * max n (-n) := by rw [hzz]; split <;> omega
    have HU := hide (And.intro u1 u2)
    clear hzz u1 u2
    generalize zig n = m at *
    go_wp2_with fail
    refine (unZigZag_any m w1 (by omega) (by omega)).mono ?_
    rintro e w' ⟨rfl, rfl⟩
    rw [HU.out.1, HU.out.2]
    go_wp2_with fail
    all_goals (go_ret; exact ⟨ret_bool (by first | rfl | (simp; done) | (simp; omega) | omega), HB.out⟩)
  · have hm : zig n = -1 := by rw [zig, inB_f hn]; rfl
    rw [hm]
    go_wp2_with fail
    refine (alive_any w1).mono ?_
    rintro e w' ⟨rfl, rfl⟩
    go_wp2_with fail
    go_ret
    exact ⟨rfl, HB.out⟩
end Go.Proofs.Ytckfffhionhnkaa.WFnZigZag
