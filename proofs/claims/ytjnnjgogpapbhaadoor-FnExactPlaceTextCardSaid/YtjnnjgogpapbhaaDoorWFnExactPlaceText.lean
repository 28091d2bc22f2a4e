/- The walk of FnExactPlaceText: both texts are placeB, and the argument reads as it did. -/
import Derived.Test.YtjnnjgogpapbhaaDoorCPlaceTxt
import Derived.Test.YtjnnjgogpapbhaaDoorIn
namespace Go.Proofs.YtjnnjgogpapbhaaDoor.WFnExactPlaceText
set_option maxRecDepth 200000
open Go.ChangeShapes Go.WideShapes Go.ChangeAt Go.RowKit Kit BWords CLandmarks CLandmarkBefore CPlaceTxt In
theorem sz_one (s : ByteArray) (p l : Int) (w : World) (hs : s.size ≤ maxLen) (h0 : 0 ≤ l) (h1 : l ≤ 1048576) :
    Calls Tryd.prog 32 #[.agg #[.string s, .int .i64 p], .int .i64 l] w (Ret (.int .i64 (if l - s.size < 0 then -1 else l - s.size)) w) := by
  unfold maxLen at hs
  by_cases h : l - s.size < 0
  · rw [if_pos h]
    go_enter Tryd.func32, Tryd.ntmps32
    go_wp2
    go_ret
    exact ⟨rfl, (by repeat (first | exact Below.refl _ _ | with_reducible assumption | (refine Below.drew ?_) | (refine Below.drewN ?_ _) | (refine Below.alloc ?_ (by simp; try omega) _) | (refine Below.setCell ?_ (by simp; try omega) _)))⟩
  · rw [if_neg h]
    go_enter Tryd.func32, Tryd.ntmps32
    go_wp2
    go_ret
    exact ⟨rfl, (by repeat (first | exact Below.refl _ _ | with_reducible assumption | (refine Below.drew ?_) | (refine Below.drewN ?_ _) | (refine Below.alloc ?_ (by simp; try omega) _) | (refine Below.setCell ?_ (by simp; try omega) _)))⟩
theorem sz_any (A : Option Addr) (zs : List D) (c : Nat) (w : World) (hn : zs.length ≤ maxLen) (hz : ∀ x ∈ zs, okLandmark x) (hr : Rd w w.heap.size A (cellsOf landmarkC zs)) :
    Calls Tryd.prog 12 #[.slice A zs.length c, .int .i64 1048576] w fun e w' => ∃ r, e = .returned (.int .i64 r) ∧ (r = -1 ∨ (0 ≤ r ∧ zs.length ≤ 1048576 ∧ ∀ x ∈ zs, x.1.size ≤ 1048576)) ∧ Below w.heap.size w w' := by
  unfold maxLen at hn
  by_cases hbig : 1048576 < zs.length
  · go_enter Tryd.func12, Tryd.ntmps12
    go_wp2_with fail
    go_ret
    exact ⟨-1, rfl, .inl rfl, Below.refl _ _⟩
  have hm : zs.length ≤ 1048576 := by omega
  clear hbig
  go_enter Tryd.func12, Tryd.ntmps12
  go_wp2_with fail
  go_loopw [1, 5] (fun l i wr => ∃ k : Nat, k ≤ zs.length ∧ i = .int .i64 k ∧ (∃ n : Int, l = .int .i64 n ∧ 0 ≤ n ∧ n ≤ 1048576) ∧ (∀ x ∈ zs.take k, x.1.size ≤ 1048576) ∧ Below w.heap.size w wr) (fun _ i _ => zs.length - (intOf i).toNat)
  case atStart => exact ⟨0, Nat.zero_le _, rfl, ⟨_, rfl, by omega, by omega⟩, fun _ h => by simp at h, Below.refl _ _⟩
  case round =>
    obtain ⟨k, hk, rfl, ⟨n, rfl, n0, n1⟩, hzk, hb⟩ := hrel
    have HB := hide hb
    by_cases hlt : k < zs.length
    · obtain ⟨b, off, rfl, _, hc⟩ := (hr.below hb).row landmarkC_len (by decide) hlt
      have hc0 := hc 0 _ rfl
      have hc1 := hc 1 _ rfl
      simp only [Nat.add_zero] at hc0
      have hs := hide (hz _ (List.getElem_mem hlt)).1
      have HK := hide (show zs[k].1.size ≤ 1048576 → ∀ x ∈ zs.take (k + 1), x.1.size ≤ 1048576 from fun h x hx => by
        rw [take_succ hlt, List.mem_append, List.mem_singleton] at hx
        rcases hx with hx | rfl
        · exact hzk x hx
        · exact h)
      clear hr hb hc hz hzk
      generalize zs[k] = z at *
      go_wp2_with fail
      refine (sz_one _ _ _ _ hs.out n0 n1).mono ?_
      rintro e w2 ⟨rfl, hb2⟩
      have HB' := hide (HB.out.trans (hb2.mono HB.out.size))
      clear hb2 hc0 hc1
      by_cases h : n - z.1.size < 0
      · rw [if_pos h]
        go_wp2_with fail
        go_ret
        exact ⟨-1, rfl, .inl rfl, HB'.out⟩
      · rw [if_neg h]
        go_wp2_with fail
        refine ⟨⟨k + 1, by omega, by go_num, ⟨_, rfl, by omega, by omega⟩, HK.out (by omega), HB'.out⟩, by simp [intOf]; omega⟩
    · have HK := hide (show ∀ x ∈ zs, x.1.size ≤ 1048576 by rw [List.take_of_length_le (by omega)] at hzk; exact hzk)
      clear hr hb hz hzk
      go_wp2_with fail
      go_ret
      exact ⟨n, rfl, .inr ⟨n0, hm, HK.out⟩, HB.out⟩
theorem walk (A : Option Addr) (zs : List D) (c : Nat) (hl : zs.length ≤ c) (hc : c ≤ maxLen) (hz : ∀ x ∈ zs, okLandmark x) (w : World) (hr : Rd w w.heap.size A (cellsOf landmarkC zs)) (a1 : Int) (h0 : -9223372036854775808 ≤ a1) (h1 : a1 ≤ 9223372036854775807) (hT : Tab w) :
    Calls Tryd.prog 4 #[.slice A zs.length c, .int .i64 a1] w (LawEnds w) := by
  have HT0 := hide hT
  clear hT
  have B0 := Below.refl w.heap.size w
  go_enter Tryd.func4, Tryd.ntmps4
  go_wp2_with fail
  refine (sz_any A zs c w (Nat.le_trans hl hc) hz hr).mono ?_
  rintro e w1 ⟨r, rfl, hcase, b1⟩
  have B1 := B0.trans (b1.mono B0.size)
  rcases hcase with rfl | ⟨hr0, hm, hzz⟩
  · go_wp2_with fail
    go_ret
    exact ⟨rfl, B1⟩
  have hm' : zs.length ≤ maxLen := by unfold maxLen; omega
  clear hc hl hz
  go_wp2_with fail
  refine (toLandmarkS_any A zs c w1 ((hr.below B1).more B1.size) hm).mono ?_
  rintro e w2 ⟨Ap, cp, rfl, op, b2⟩
  have B2 := B1.trans (b2.mono B1.size)
  have rp := Rd.of_own op
  clear op
  go_wp2_with fail
  refine (placeTextS_any Ap zs cp a1 w2 rp hm' hzz h0 h1).mono ?_
  rintro e w3 ⟨rfl, b3⟩
  have B3 := B2.trans (b3.mono B2.size)
  have HR := hide hr
  clear rp hr b1 b2 b3
  go_wp2_with fail
  refine (toLandmarkS_any A zs c w3 ((HR.out.below B3).more B3.size) hm).mono ?_
  rintro e w5 ⟨Aq, cq, rfl, oq, b5⟩
  have B5 := B3.trans (b5.mono B3.size)
  have rq := Rd.of_own oq
  clear oq b5
  go_wp2_with fail
  refine (placeText_any Aq zs cq a1 w5 rq hm' hzz h0 h1 (HT0.out.below B5)).mono ?_
  rintro e w6 ⟨rfl, b6⟩
  have B6 := B5.trans (b6.mono B5.size)
  have rq6 := (rq.below b6).more b6.size
  have HQ := hide rq6
  clear rq rq6 b6
  generalize placeB zs a1 = S at *
  go_wp2_with fail
  refine (toLandmarkS_any A zs c w6 ((HR.out.below B6).more B6.size) hm).mono ?_
  rintro e w9 ⟨Ar, cr, rfl, or, b9⟩
  have B9 := B6.trans (b9.mono B6.size)
  have rr := Rd.of_own or
  go_wp2_with fail
  refine (eqLandmarkS_same Aq Ar zs cq cr w9 ((HQ.out.below b9).more b9.size) rr hm').mono ?_
  rintro e w10 ⟨rfl, b10⟩
  have B10 := B9.trans (b10.mono B9.size)
  go_wp2_with fail
  go_ret
  exact ⟨rfl, B10⟩
end Go.Proofs.YtjnnjgogpapbhaaDoor.WFnExactPlaceText
