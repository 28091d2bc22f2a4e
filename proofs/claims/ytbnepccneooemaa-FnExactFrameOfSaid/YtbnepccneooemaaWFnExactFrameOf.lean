/- The walk of FnExactFrameOf: the program and the reference answer alike, and the argument reads as it did. -/
import Derived.Test.YtbnepccneooemaaCFrames
import Derived.Test.YtbnepccneooemaaCFramesValid
import Derived.Test.YtbnepccneooemaaIn
namespace Go.Proofs.Ytbnepccneooemaa.WFnExactFrameOf
open Go.ChangeShapes Go.WideShapes Go.ChangeAt Go.RowKit Kit CFrames CFramesValid In
theorem sz_big (A : Option Addr) (n c : Nat) (w : World) (h : 1048576 < n) (hn : n ≤ maxLen) : Calls Try.prog 24 #[.slice A n c, .int .i64 1048576] w (Pure (.int .i64 (-1)) w) := by
  unfold maxLen at hn
  go_enter Try.func24, Try.ntmps24
  go_wp2
  go_ret
  exact ⟨rfl, rfl⟩
theorem sz_small (A : Option Addr) (n c : Nat) (w : World) (h : n ≤ 1048576) : Calls Try.prog 24 #[.slice A n c, .int .i64 1048576] w (Pure (.int .i64 (1048576 - n)) w) := by
  go_enter Try.func24, Try.ntmps24
  go_wp2
  go_ret
  exact ⟨rfl, rfl⟩
theorem walk (A : Option Addr) (zs : List CFrames.D) (c : Nat) (hl : zs.length ≤ c) (hc : c ≤ maxLen) (hz : ∀ x ∈ zs, In.okFrame x) (w : World) (hr : Rd w w.heap.size A (cellsOf frameC zs)) (a1 : Int) (_ : -9223372036854775808 ≤ a1) (_ : a1 ≤ 9223372036854775807) :
    Calls Try.prog 7 #[.slice A zs.length c, .int .i64 a1] w (LawEnds w) := by
  by_cases hbig : 1048576 < zs.length
  · go_enter Try.func7, Try.ntmps7
    go_wp2_with fail
    refine (sz_big A _ c w hbig (Nat.le_trans hl hc)).mono ?_
    rintro e w' ⟨rfl, rfl⟩
    go_wp2_with fail
    go_ret
    exact ⟨rfl, Below.refl _ _⟩
  have hm : zs.length ≤ 1048576 := by omega
  have hm' : zs.length ≤ maxLen := by unfold maxLen; omega
  clear hbig hc
  have B0 := Below.refl w.heap.size w
  go_enter Try.func7, Try.ntmps7
  go_wp2_with fail
  refine (sz_small A _ c w hm).mono ?_
  rintro e w' ⟨rfl, rfl⟩
  go_wp2_with fail
  refine (toFrameS_any A zs c w ((hr.below B0).more B0.size) hm).mono ?_
  rintro e w1 ⟨Ap, cp, rfl, op, b1⟩
  have B1 := B0.trans (b1.mono B0.size)
  have rp := Rd.of_own op
  clear op
  go_wp2_with fail
  refine (frameOfS_any Ap zs cp a1 w1 rp hm').mono ?_
  rintro e w2 ⟨rfl, b2⟩
  have B2 := B1.trans (b2.mono B1.size)
  go_wp2_with fail
  refine (toFrameS_any A zs c w2 ((hr.below B2).more B2.size) hm).mono ?_
  rintro e w3 ⟨Aq, cq, rfl, oq, b3⟩
  have B3 := B2.trans (b3.mono B2.size)
  have rq := Rd.of_own oq
  clear oq
  go_wp2_with fail
  refine (frameOf_any Aq zs cq a1 w3 rq hm').mono ?_
  rintro e w4 ⟨rfl, b4⟩
  have rq := (rq.below b4).more b4.size
  have B4 := B3.trans (b4.mono B3.size)
  go_wp2_with fail
  refine (toFrameS_any A zs c w4 ((hr.below B4).more B4.size) hm).mono ?_
  rintro e w5 ⟨Ar, cr, rfl, or, b5⟩
  have B5 := B4.trans (b5.mono B4.size)
  have rr := Rd.of_own or
  clear or
  go_wp2_with fail
  have rq := (rq.below b5).more b5.size
  refine (eqFrameS_same Aq Ar zs cq cr w5 rq rr hm').mono ?_
  rintro e w6 ⟨rfl, b6⟩
  have B6 := B5.trans (b6.mono B5.size)
  go_wp2_with fail
  go_ret
  exact ⟨rfl, B6⟩
end Go.Proofs.Ytbnepccneooemaa.WFnExactFrameOf
