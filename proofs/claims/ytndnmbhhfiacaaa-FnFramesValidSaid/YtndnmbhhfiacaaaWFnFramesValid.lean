/- The walk of FnFramesValid: frames do not meet. -/
import Derived.Test.YtndnmbhhfiacaaaDFrames
import Derived.Test.YtndnmbhhfiacaaaPFrames
import Derived.Test.YtndnmbhhfiacaaaCAlive
namespace Go.Proofs.Ytndnmbhhfiacaaa.WFnFramesValid
set_option maxRecDepth 200000
open Go.ChangeShapes Go.WideShapes Go.ChangeAt Go.RowKit Kit CCode CFrames CFramesValid PFrames DPick DVar DFrames CAlive
theorem draw_any {A : Option Addr} {zs : List Int} {c : Nat} {w : World} (hr : Rd w w.heap.size A (ints .u8 zs)) (hz : InR 0 255 zs) (hc : zs.length ≤ c) (hcm : c ≤ maxLen) :
    Calls Try.prog 32 #[.slice A zs.length c] w (fun e w' => ∃ (A' : Option Addr) (ys : List CFrames.D) (c' : Nat), e = .returned (.slice A' ys.length c') ∧ ys.length ≤ 7 ∧ (∀ z ∈ ys, SmallF z) ∧ w'.ownsRow w.heap.size 36 3 (.slice A' ys.length c') ys.length (cellsOf frameC ys) ∧ Below w.heap.size w w') := by
  have HO := hide (open_any A zs c w hr hz hc hcm)
  clear hr hz hc hcm
  go_enter Try.func32, Try.ntmps32
  go_wp2_with fail
  refine HO.out.mono ?_
  rintro e w1 ⟨R, rfl, T, b1⟩
  have T0 := Tp.start T
  have hRl := T.1
  have HB := hide b1
  clear T b1
  go_wp2_with fail
  refine (frames_any T0 (by omega) (by omega) _ (by omega) (by omega)).mono ?_
  rintro e w2 ⟨A', ys, c', rfl, y0, y1, o2, T2⟩
  go_wp2_with fail
  go_ret
  exact ⟨A', ys, c', rfl, y0, y1, own_base o2 HB.out.size, HB.out.trans (T2.below HB.out.size hRl)⟩
theorem rd_tail {w : World} {B : Nat} {A : Option Addr} {y : CFrames.D} {r : List CFrames.D} (h : Rd w B A (cellsOf frameC (y :: r))) : Rd w B (A.map fun x => ⟨x.block, x.off + 3, none⟩) (cellsOf frameC r) := fun i u hu => by
  obtain ⟨b, off, rfl, hb, hc⟩ := h (i + 3) u (by simpa [cellsOf, frameC] using hu)
  exact ⟨b, off + 3, rfl, hb, by rw [show off + 3 + i = off + (i + 3) by omega]; exact hc⟩
theorem oneF {zs : List CFrames.D} : ∀ u ∈ cellsOf frameC zs, u.oneCell' = true := by
  intro u hu
  obtain ⟨z, _, hz⟩ := List.mem_flatMap.1 hu
  simp only [frameC, List.mem_cons, List.not_mem_nil, or_false] at hz
  rcases hz with rfl | rfl | rfl <;> rfl
theorem walk (A : Option Addr) (zs : List Int) (c : Nat) (hl : zs.length ≤ c) (hc : c ≤ maxLen) (hz : InR 0 255 zs) (w : World) (hr : Rd w w.heap.size A (ints .u8 zs)) :
    Calls Try.prog 5 #[.slice A zs.length c] w (LawEnds w) := by
  obtain ⟨i0, hi, hz0, hz1, hz2⟩ := info_parts CFrames.info
  have hcm := hc
  unfold maxLen at hcm
  have HD := hide (draw_any hr hz hl hc)
  clear hr hz hc
  by_cases hbig : 1048576 < zs.length
  · go_enter Try.func5, Try.ntmps5
    go_wp2_with fail
    go_ret
    exact ⟨rfl, Below.refl _ _⟩
  go_enter Try.func5, Try.ntmps5
  go_wp2_with fail
  refine HD.out.mono ?_
  rintro e w1 ⟨A1, ys, c1, rfl, l1, r1, o1, b1⟩
  have HB := hide b1
  have HO := hide o1
  clear b1 o1
  have hym : ys.length ≤ maxLen := by unfold maxLen; omega
  go_wp2_with fail
  refine (framesValid_any A1 ys c1 w1 (Rd.of_own HO.out) hym).mono ?_
  rintro e w2 ⟨rfl, b2⟩
  have HO2 := hide (own_call b2 HO.out)
  have HB2 := hide (HB.out.trans (b2.mono HB.out.size))
  clear b2 HO HB
  go_wp2_with fail
  refine (framesValidS_any A1 ys c1 w2 (Rd.of_own HO2.out) hym).mono ?_
  rintro e w3 ⟨rfl, b3⟩
  have HO3 := hide (own_call b3 HO2.out)
  have HB3 := hide (HB2.out.trans (b3.mono HB2.out.size))
  clear b3 HO2 HB2
  by_cases hg : framesOk ys = true ∧ ys.length ≠ 0
  · obtain ⟨hv, hn⟩ := hg
    have hcc := own_cap HO3.out
    have hform : ∃ g, A1 = some ⟨g, 0, none⟩ := by
      rcases HO3.out.2 with ⟨hv, h0⟩ | ⟨g, cap, cur, hv, _⟩
      · omega
      · injection hv with hA
        exact ⟨g, hA⟩
    obtain ⟨g, rfl⟩ := hform
    obtain ⟨y, r, rfl⟩ : ∃ y r, ys = y :: r := by
      cases ys with
      | nil => exact absurd rfl hn
      | cons y r => exact ⟨y, r, rfl⟩
    have HT := hide (ok_tail hv)
    have H2 := hide (ok_twice (y := y) (r := r))
    have HRT := hide (rd_tail (Rd.of_own HO3.out))
    rw [hv]
    clear hv hn
    simp only [List.length_cons] at *
    have hgl := (HO3.out.lt g rfl).2
    have HR3 := hide (Rd.of_own HO3.out)
    by_cases hc1 : c1 = 1
    · have hr0 : r.length = 0 := by omega
      have hre : r = [] := List.eq_nil_of_length_eq_zero hr0
      subst hre
      subst hc1
      go_wp2_with fail
      refine (framesValid_any _ [] _ w3 (Rd.nil _) (by simp)).mono ?_
      rintro e w4 ⟨rfl, b4⟩
      rw [HT.out]
      have HO4 := hide (own_call b4 HO3.out)
      have HB4 := hide (HB3.out.trans (b4.mono HB3.out.size))
      obtain ⟨b, off, e', hbg, hc⟩ := (Rd.of_own HO4.out).row frameC_len (by decide) (k := 0) (by simp)
      simp only [Option.some.injEq, Addr.mk.injEq, and_true] at e'
      obtain ⟨rfl, rfl⟩ := e'
      have q0 := hc 0 _ rfl
      have q1 := hc 1 _ rfl
      have q2 := hc 2 _ rfl
      simp only [List.getElem_cons_zero, Nat.zero_mul, Nat.add_zero] at q0 q1 q2
      have HE : Hid ((w4.alloc (.cells #[.int .i64 y.1, .int .i64 y.2.1, .int .i64 y.2.2] 36)).ownsRow w.heap.size 36 3 (.slice (some ⟨w4.heap.size, 0, none⟩) 1 1) 1 [.int .i64 y.1, .int .i64 y.2.1, .int .i64 y.2.2]) := World.ownsRow_lit (base := w.heap.size) (e := 36) (size := 3) w4 #[.int .i64 y.1, .int .i64 y.2.1, .int .i64 y.2.2] 1 HB4.out.size (by unfold maxLen; omega) rfl
      have HO5 := hide (HO4.out.alloc (.cells #[.int .i64 y.1, .int .i64 y.2.1, .int .i64 y.2.2] 36))
      have HB5 := hide (HB4.out.alloc HB4.out.size (.cells #[.int .i64 y.1, .int .i64 y.2.1, .int .i64 y.2.2] 36))
      clear b4 hc HO4 HRT HR3
      go_wp2_with (at_builtin; go_loud (refine wpList_appOw _ (by first | rfl | decide | (simp [Region.wanted, yielded]; done)) (.tmp 31) (.tmp 32) 32 rfl w.heap.size _ 36 i0 (.agg #[.int .i64 0, .int .i64 0, .int .i64 0]) 3 24 Try.underlying32 hi hz0 hz1 hz2 rfl (by decide) _ _ _ _ rfl HO5.out oneF _ _ _ rfl HE.out ?n1 ?n2 ?n3 ?_))
      case n1 => unfold maxLen; first | omega | (simp; done) | (simp; omega)
      case n2 => first | omega | (simp; done) | (simp; omega)
      case n3 => exact HB5.out.size
      intro A6 n6 c6 w6 hn6 o6 g6
      have HB6 := hide (HB5.out.grown g6 HB5.out.size (fun k hk => (HE.out.lt k hk).1))
      have HR6 := hide (show Rd w6 w6.heap.size A6 (cellsOf frameC (y :: y :: [])) from Rd.of_own o6)
      have hn6' : n6 = (y :: y :: []).length := by rw [hn6]; first | omega | (simp; done) | (simp; omega)
      clear o6 g6 HO5 HE HB5 q0 q1 q2 hn6
      subst hn6'
      go_wp2_with fail
      refine (framesValid_any A6 (y :: y :: []) c6 w6 HR6.out (by unfold maxLen; first | omega | (simp; done) | (simp; omega))).mono ?_
      rintro e w7 ⟨rfl, b7⟩
      rw [H2.out]
      have HB7 := hide (HB6.out.trans (b7.mono HB6.out.size))
      clear b7
      go_wp2_with fail
      go_ret
      exact ⟨rfl, HB7.out⟩
    · go_wp2_with fail
      refine (framesValid_any _ r _ w3 HRT.out (by omega)).mono ?_
      rintro e w4 ⟨rfl, b4⟩
      rw [HT.out]
      have HO4 := hide (own_call b4 HO3.out)
      have HB4 := hide (HB3.out.trans (b4.mono HB3.out.size))
      obtain ⟨b, off, e', hbg, hc⟩ := (Rd.of_own HO4.out).row frameC_len (by decide) (k := 0) (by simp)
      simp only [Option.some.injEq, Addr.mk.injEq, and_true] at e'
      obtain ⟨rfl, rfl⟩ := e'
      have q0 := hc 0 _ rfl
      have q1 := hc 1 _ rfl
      have q2 := hc 2 _ rfl
      simp only [List.getElem_cons_zero, Nat.zero_mul, Nat.add_zero] at q0 q1 q2
      have HE : Hid ((w4.alloc (.cells #[.int .i64 y.1, .int .i64 y.2.1, .int .i64 y.2.2] 36)).ownsRow w.heap.size 36 3 (.slice (some ⟨w4.heap.size, 0, none⟩) 1 1) 1 [.int .i64 y.1, .int .i64 y.2.1, .int .i64 y.2.2]) := World.ownsRow_lit (base := w.heap.size) (e := 36) (size := 3) w4 #[.int .i64 y.1, .int .i64 y.2.1, .int .i64 y.2.2] 1 HB4.out.size (by unfold maxLen; omega) rfl
      have HO5 := hide (HO4.out.alloc (.cells #[.int .i64 y.1, .int .i64 y.2.1, .int .i64 y.2.2] 36))
      have HB5 := hide (HB4.out.alloc HB4.out.size (.cells #[.int .i64 y.1, .int .i64 y.2.1, .int .i64 y.2.2] 36))
      clear b4 hc HO4 HRT HR3
      go_wp2_with (at_builtin; go_loud (refine wpList_appOw _ (by first | rfl | decide | (simp [Region.wanted, yielded]; done)) (.tmp 31) (.tmp 32) 32 rfl w.heap.size _ 36 i0 (.agg #[.int .i64 0, .int .i64 0, .int .i64 0]) 3 24 Try.underlying32 hi hz0 hz1 hz2 rfl (by decide) _ _ _ _ rfl HO5.out oneF _ _ _ rfl HE.out ?n1 ?n2 ?n3 ?_))
      case n1 => unfold maxLen; first | omega | (simp; done) | (simp; omega)
      case n2 => first | omega | (simp; done) | (simp; omega)
      case n3 => exact HB5.out.size
      intro A6 n6 c6 w6 hn6 o6 g6
      have HB6 := hide (HB5.out.grown g6 HB5.out.size (fun k hk => (HE.out.lt k hk).1))
      have HR6 := hide (show Rd w6 w6.heap.size A6 (cellsOf frameC (y :: y :: r)) from Rd.of_own o6)
      have hn6' : n6 = (y :: y :: r).length := by rw [hn6]; first | omega | (simp; done) | (simp; omega)
      clear o6 g6 HO5 HE HB5 q0 q1 q2 hn6
      subst hn6'
      go_wp2_with fail
      refine (framesValid_any A6 (y :: y :: r) c6 w6 HR6.out (by unfold maxLen; first | omega | (simp; done) | (simp; omega))).mono ?_
      rintro e w7 ⟨rfl, b7⟩
      rw [H2.out]
      have HB7 := hide (HB6.out.trans (b7.mono HB6.out.size))
      clear b7
      go_wp2_with fail
      go_ret
      exact ⟨rfl, HB7.out⟩
  · cases hv : framesOk ys
    · go_wp2_with fail
      refine (alive_any _).mono ?_
      rintro e w' ⟨rfl, rfl⟩
      go_wp2_with fail
      go_ret
      exact ⟨rfl, HB3.out⟩
    · have hn : ys.length = 0 := by
        apply Classical.byContradiction
        intro h
        exact hg ⟨hv, h⟩
      clear hg hv
      go_wp2_with fail
      refine (alive_any _).mono ?_
      rintro e w' ⟨rfl, rfl⟩
      go_wp2_with fail
      go_ret
      exact ⟨rfl, HB3.out⟩
end Go.Proofs.Ytndnmbhhfiacaaa.WFnFramesValid
