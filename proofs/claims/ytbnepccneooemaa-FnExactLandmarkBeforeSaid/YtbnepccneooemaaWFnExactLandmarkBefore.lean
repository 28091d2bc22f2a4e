/- The walk of FnExactLandmarkBefore: the program and the reference answer alike, and the argument reads as it did. -/
import Derived.Test.YtbnepccneooemaaCLandmarks
import Derived.Test.YtbnepccneooemaaCLandmarkBefore
import Derived.Test.YtbnepccneooemaaIn
namespace Go.Proofs.Ytbnepccneooemaa.WFnExactLandmarkBefore
set_option maxRecDepth 20000
open Go.ChangeShapes Go.WideShapes Go.ChangeAt Go.RowKit Kit CLandmarks CLandmarkBefore In
theorem sz_one (s : ByteArray) (p l : Int) (w : World) (hs : s.size ≤ maxLen) (h0 : 0 ≤ l) (h1 : l ≤ 1048576) :
    Calls Try.prog 77 #[.agg #[.string s, .int .i64 p], .int .i64 l] w (Ret (.int .i64 (if l - s.size < 0 then -1 else l - s.size)) w) := by
  unfold maxLen at hs
  by_cases h : l - s.size < 0
  · rw [if_pos h]
    go_enter Try.func77, Try.ntmps77
    go_wp2
    go_ret
    exact ⟨rfl, (by repeat (first | exact Below.refl _ _ | with_reducible assumption | (refine Below.drew ?_) | (refine Below.drewN ?_ _) | (refine Below.alloc ?_ (by simp; try omega) _) | (refine Below.setCell ?_ (by simp; try omega) _)))⟩
  · rw [if_neg h]
    go_enter Try.func77, Try.ntmps77
    go_wp2
    go_ret
    exact ⟨rfl, (by repeat (first | exact Below.refl _ _ | with_reducible assumption | (refine Below.drew ?_) | (refine Below.drewN ?_ _) | (refine Below.alloc ?_ (by simp; try omega) _) | (refine Below.setCell ?_ (by simp; try omega) _)))⟩
theorem sz_any (A : Option Addr) (zs : List D) (c : Nat) (w : World) (hn : zs.length ≤ maxLen) (hz : ∀ x ∈ zs, okLandmark x) (hr : Rd w w.heap.size A (cellsOf landmarkC zs)) :
    Calls Try.prog 38 #[.slice A zs.length c, .int .i64 1048576] w fun e w' => ∃ r, e = .returned (.int .i64 r) ∧ (r = -1 ∨ (0 ≤ r ∧ zs.length ≤ 1048576)) ∧ Below w.heap.size w w' := by
  unfold maxLen at hn
  by_cases hbig : 1048576 < zs.length
  · go_enter Try.func38, Try.ntmps38
    go_wp2_with fail
    go_ret
    exact ⟨-1, rfl, .inl rfl, Below.refl _ _⟩
  have hm : zs.length ≤ 1048576 := by omega
  clear hbig
  go_enter Try.func38, Try.ntmps38
  go_wp2_with fail
  go_loopw [1, 5] (fun l i wr => ∃ k : Nat, k ≤ zs.length ∧ i = .int .i64 k ∧ (∃ n : Int, l = .int .i64 n ∧ 0 ≤ n ∧ n ≤ 1048576) ∧ Below w.heap.size w wr) (fun _ i _ => zs.length - (intOf i).toNat)
  case atStart => exact ⟨0, Nat.zero_le _, rfl, ⟨_, rfl, by omega, by omega⟩, Below.refl _ _⟩
  case round =>
    obtain ⟨k, hk, rfl, ⟨n, rfl, n0, n1⟩, hb⟩ := hrel
    have HB := hide hb
    by_cases hlt : k < zs.length
    · obtain ⟨b, off, rfl, _, hc⟩ := (hr.below hb).row landmarkC_len (by decide) hlt
      have hc0 := hc 0 _ rfl
      have hc1 := hc 1 _ rfl
      simp only [Nat.add_zero] at hc0
      have hs := hide (hz _ (List.getElem_mem hlt)).1
      clear hr hb hc hz
      generalize zs[k] = z at *
      go_wp2_with fail
      refine (sz_one _ _ _ _ hs.out n0 n1).mono ?_
      rintro e w2 ⟨rfl, hb2⟩
      have HB' := hide (HB.out.trans (hb2.mono HB.out.size))
      clear hb2 hc0 hc1
      by_cases h : n - z.1.size < 0
      · rw [if_pos h]
        go_wp2_with fail
        go_ret
        exact ⟨-1, rfl, .inl rfl, HB'.out⟩
      · rw [if_neg h]
        go_wp2_with fail
        refine ⟨⟨k + 1, by omega, by go_num, ⟨_, rfl, by omega, by omega⟩, HB'.out⟩, by simp [intOf]; omega⟩
    · clear hr hb hz
      go_wp2_with fail
      go_ret
      exact ⟨n, rfl, .inr ⟨n0, hm⟩, HB.out⟩
theorem res_form (b : Option D) : ∃ s p f, res b = .tuple #[.agg #[.string s, .int .i64 p], .bool f] := by
  cases b with
  | none => exact ⟨_, _, _, rfl⟩
  | some z => exact ⟨_, _, _, rfl⟩
theorem walk (A : Option Addr) (zs : List D) (c : Nat) (hl : zs.length ≤ c) (hc : c ≤ maxLen) (hz : ∀ x ∈ zs, okLandmark x) (w : World) (hr : Rd w w.heap.size A (cellsOf landmarkC zs)) (a1 : Int) (_ : -9223372036854775808 ≤ a1) (_ : a1 ≤ 9223372036854775807) :
    Calls Try.prog 9 #[.slice A zs.length c, .int .i64 a1] w (LawEnds w) := by
  have B0 := Below.refl w.heap.size w
  go_enter Try.func9, Try.ntmps9
  go_wp2_with fail
  refine (sz_any A zs c w (Nat.le_trans hl hc) hz hr).mono ?_
  rintro e w1 ⟨r, rfl, hcase, b1⟩
  have B1 := B0.trans (b1.mono B0.size)
  rcases hcase with rfl | ⟨h0, hm⟩
  · go_wp2_with fail
    go_ret
    exact ⟨rfl, B1⟩
  have hm' : zs.length ≤ maxLen := by unfold maxLen; omega
  clear hc hl hz
  go_wp2_with fail
  refine (toLandmarkS_any A zs c w1 ((hr.below B1).more B1.size) hm).mono ?_
  rintro e w2 ⟨Ap, cp, rfl, op, b2⟩
  have B2 := B1.trans (b2.mono B1.size)
  have rp := Rd.of_own op
  clear op
  go_wp2_with fail
  refine (landmarkBeforeS_any Ap zs cp a1 w2 rp hm').mono ?_
  rintro e w3 ⟨rfl, b3⟩
  have B3 := B2.trans (b3.mono B2.size)
  have HR := hide hr
  clear rp hr
  obtain ⟨s, p, b, hres⟩ := res_form (bestL zs a1)
  rw [hres]
  have HS := hide hres
  clear hres
  go_wp2_with fail
  have X := Box.new w3 58 #[.string s, .int .i64 p]
  have B4 : Below w.heap.size w (w3.alloc (.cells #[.string s, .int .i64 p] 58)) := B3.alloc B3.size _
  have Z4 : w3.heap.size < (w3.alloc (.cells #[.string s, .int .i64 p] 58)).heap.size := by simp
  generalize w3.heap.size = g0 at *
  generalize w3.alloc (.cells #[.string s, .int .i64 p] 58) = w4 at *
  refine (toLandmarkS_any A zs c w4 ((HR.out.below B4).more B4.size) hm).mono ?_
  rintro e w5 ⟨Aq, cq, rfl, oq, b5⟩
  have B5 := B4.trans (b5.mono B4.size)
  have X5 := X.call b5
  have rq := Rd.of_own oq
  clear oq
  go_wp2_with fail
  refine (landmarkBefore_any Aq zs cq a1 w5 rq hm').mono ?_
  rintro e w6 ⟨rfl, b6⟩
  have B6 := B5.trans (b6.mono B5.size)
  have X6 := X5.call b6
  have rq6 := (rq.below b6).more b6.size
  rw [HS.out]
  have q0 := X6.cell 0
  have q1 := X6.cell 1
  have hg6 := X6.lt
  simp only [List.getElem?_toArray, List.getElem?_cons_zero, List.getElem?_cons_succ] at q0 q1
  clear rq X X5
  go_wp2_with fail
  have B7 : Below w.heap.size w (w6.alloc (.cells #[.string s, .int .i64 p] 58)) := B6.alloc B6.size _
  have rq7 : Rd (w6.alloc (.cells #[.string s, .int .i64 p] 58)) (w6.alloc (.cells #[.string s, .int .i64 p] 58)).heap.size Aq (cellsOf landmarkC zs) := (rq6.below (Below.alloc (Below.refl _ _) (Nat.le_refl _) _)).more (by simp)
  have HR7 := hide rq7
  clear rq6 rq7 q0 q1 X6
  refine (eqLandmark_same (s, p) _).mono ?_
  rintro e w8 ⟨rfl, b8⟩
  have B8 := B7.trans (b8.mono B7.size)
  have rq8 := (HR7.out.below b8).more b8.size
  have HQ := hide rq8
  clear rq8
  have hbb : (b != b) = false := by simp
  go_wp2_with fail
  refine (toLandmarkS_any A zs c w8 ((HR.out.below B8).more B8.size) hm).mono ?_
  rintro e w9 ⟨Ar, cr, rfl, or, b9⟩
  have B9 := B8.trans (b9.mono B8.size)
  have rr := Rd.of_own or
  go_wp2_with fail
  refine (eqLandmarkS_same Aq Ar zs cq cr w9 ((HQ.out.below b9).more b9.size) rr hm').mono ?_
  rintro e w10 ⟨rfl, b10⟩
  have B10 := B9.trans (b10.mono B9.size)
  go_wp2_with fail
  go_ret
  exact ⟨rfl, B10⟩
end Go.Proofs.Ytbnepccneooemaa.WFnExactLandmarkBefore
