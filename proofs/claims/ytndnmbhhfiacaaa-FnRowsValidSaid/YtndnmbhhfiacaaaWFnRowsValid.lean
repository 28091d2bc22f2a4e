/- The walk of FnRowsValid: rows ascend. -/
import Derived.Test.YtndnmbhhfiacaaaDRows
import Derived.Test.YtndnmbhhfiacaaaCRowsValid
import Derived.Test.YtndnmbhhfiacaaaCAlive
import Derived.Test.YtndnmbhhfiacaaaCPutRows
namespace Go.Proofs.Ytndnmbhhfiacaaa.WFnRowsValid
set_option maxRecDepth 200000
open Go.ChangeShapes Go.WideShapes Go.ChangeAt Go.RowKit Kit CCode CRows CRowsValid DPick DVar DRows CAlive CPutRows
theorem draw_any {A : Option Addr} {zs : List Int} {c : Nat} {w : World} (hr : Rd w w.heap.size A (ints .u8 zs)) (hz : InR 0 255 zs) (hc : zs.length ≤ c) (hcm : c ≤ maxLen) :
    Calls Try.prog 29 #[.slice A zs.length c] w (fun e w' => ∃ (A' : Option Addr) (ys : List CRows.D) (c' : Nat), e = .returned (.slice A' ys.length c') ∧ ys.length ≤ 7 ∧ (∀ z ∈ ys, SmallR z) ∧ w'.ownsRow w.heap.size 31 2 (.slice A' ys.length c') ys.length (cellsOf rowC ys) ∧ Below w.heap.size w w') := by
  have HO := hide (open_any A zs c w hr hz hc hcm)
  clear hr hz hc hcm
  go_enter Try.func29, Try.ntmps29
  go_wp2_with fail
  refine HO.out.mono ?_
  rintro e w1 ⟨R, rfl, T, b1⟩
  have T0 := Tp.start T
  have hRl := T.1
  have HB := hide b1
  clear T b1
  go_wp2_with fail
  refine (rows_any T0 (by omega) (by omega) _ (by omega) (by omega)).mono ?_
  rintro e w2 ⟨A', ys, c', rfl, y0, y1, o2, T2⟩
  go_wp2_with fail
  go_ret
  exact ⟨A', ys, c', rfl, y0, y1, own_base o2 HB.out.size, HB.out.trans (T2.below HB.out.size hRl)⟩
theorem ok_tail {y : CRows.D} {r : List CRows.D} (h : rowsOk (y :: r) = true) : rowsOk r = true := by
  have hl := rowsOk_len h
  simp only [List.length_cons] at hl
  rw [rowsOk_all (fun j hj => ?_)]
  · exact decide_eq_true (by omega)
  · obtain ⟨a, b, c, d, e⟩ := rowsOk_at h (k := j + 1) (by simpa using hj)
    simp only [List.getElem_cons_succ] at a b c d e
    unfold rowOk
    rw [List.getElem?_eq_getElem hj]
    simp only [Bool.and_eq_true, Bool.or_eq_true, beq_iff_eq, decide_eq_true_eq]
    refine ⟨⟨inB_t ⟨a, b⟩, inB_t ⟨c, d⟩⟩, ?_⟩
    cases j with
    | zero => exact .inl rfl
    | succ j => exact .inr (by simpa using e)
theorem ok_twice {y : CRows.D} {r : List CRows.D} : rowsOk (y :: y :: r) = false := by
  refine rowsOk_no (k := 1) (by simp) ?_
  unfold rowOk
  simp
theorem rd_tail {w : World} {B : Nat} {A : Option Addr} {y : CRows.D} {r : List CRows.D} (h : Rd w B A (cellsOf rowC (y :: r))) : Rd w B (A.map fun x => ⟨x.block, x.off + 2, none⟩) (cellsOf rowC r) := fun i u hu => by
  obtain ⟨b, off, rfl, hb, hc⟩ := h (i + 2) u (by simpa [cellsOf, rowC] using hu)
  exact ⟨b, off + 2, rfl, hb, by rw [show off + 2 + i = off + (i + 2) by omega]; exact hc⟩
theorem oneR {zs : List CRows.D} : ∀ u ∈ cellsOf rowC zs, u.oneCell' = true := by
  intro u hu
  obtain ⟨z, _, hz⟩ := List.mem_flatMap.1 hu
  simp only [rowC, List.mem_cons, List.not_mem_nil, or_false] at hz
  rcases hz with rfl | rfl <;> rfl
theorem walk (A : Option Addr) (zs : List Int) (c : Nat) (hl : zs.length ≤ c) (hc : c ≤ maxLen) (hz : InR 0 255 zs) (w : World) (hr : Rd w w.heap.size A (ints .u8 zs)) :
    Calls Try.prog 4 #[.slice A zs.length c] w (LawEnds w) := by
  obtain ⟨i0, hi, hz0, hz1, hz2⟩ := info_parts CRows.info
  have hcm := hc
  unfold maxLen at hcm
  have HD := hide (draw_any hr hz hl hc)
  clear hr hz hc
  by_cases hbig : 1048576 < zs.length
  · go_enter Try.func4, Try.ntmps4
    go_wp2_with fail
    go_ret
    exact ⟨rfl, Below.refl _ _⟩
  go_enter Try.func4, Try.ntmps4
  go_wp2_with fail
  refine HD.out.mono ?_
  rintro e w1 ⟨A1, ys, c1, rfl, l1, r1, o1, b1⟩
  have HB := hide b1
  have HO := hide o1
  clear b1 o1
  have hym : ys.length ≤ maxLen := by unfold maxLen; omega
  go_wp2_with fail
  refine (rowsValid_any A1 ys c1 w1 (Rd.of_own HO.out) hym).mono ?_
  rintro e w2 ⟨rfl, b2⟩
  have HO2 := hide (own_call b2 HO.out)
  have HB2 := hide (HB.out.trans (b2.mono HB.out.size))
  clear b2 HO HB
  go_wp2_with fail
  refine (rowsValidS_any A1 ys c1 w2 (Rd.of_own HO2.out) hym).mono ?_
  rintro e w3 ⟨rfl, b3⟩
  have HO3 := hide (own_call b3 HO2.out)
  have HB3 := hide (HB2.out.trans (b3.mono HB2.out.size))
  clear b3 HO2 HB2
  by_cases hg : rowsOk ys = true ∧ ys.length ≠ 0
  · obtain ⟨hv, hn⟩ := hg
    have hcc := own_cap HO3.out
    have hform : ∃ g, A1 = some ⟨g, 0, none⟩ := by
      rcases HO3.out.2 with ⟨hv, h0⟩ | ⟨g, cap, cur, hv, _⟩
      · omega
      · injection hv with hA
        exact ⟨g, hA⟩
    obtain ⟨g, rfl⟩ := hform
    obtain ⟨y, r, rfl⟩ : ∃ y r, ys = y :: r := by
      cases ys with
      | nil => exact absurd rfl hn
      | cons y r => exact ⟨y, r, rfl⟩
    have HT := hide (ok_tail hv)
    have H2 := hide (ok_twice (y := y) (r := r))
    have HRT := hide (rd_tail (Rd.of_own HO3.out))
    rw [hv]
    clear hv hn
    simp only [List.length_cons] at *
    have hgl := (HO3.out.lt g rfl).2
    have HR3 := hide (Rd.of_own HO3.out)
    by_cases hc1 : c1 = 1
    · have hr0 : r.length = 0 := by omega
      have hre : r = [] := List.eq_nil_of_length_eq_zero hr0
      subst hre
      subst hc1
      go_wp2_with fail
      refine (rowsValid_any _ [] _ w3 (Rd.nil _) (by simp)).mono ?_
      rintro e w4 ⟨rfl, b4⟩
      rw [HT.out]
      have HO4 := hide (own_call b4 HO3.out)
      have HB4 := hide (HB3.out.trans (b4.mono HB3.out.size))
      obtain ⟨b, off, e', hbg, hc⟩ := (Rd.of_own HO4.out).row rowC_len (by decide) (k := 0) (by simp)
      simp only [Option.some.injEq, Addr.mk.injEq, and_true] at e'
      obtain ⟨rfl, rfl⟩ := e'
      have q0 := hc 0 _ rfl
      have q1 := hc 1 _ rfl
      simp only [List.getElem_cons_zero, Nat.zero_mul, Nat.add_zero] at q0 q1
      have HE : Hid ((w4.alloc (.cells #[.int .i64 y.1, .int .i64 y.2] 31)).ownsRow w.heap.size 31 2 (.slice (some ⟨w4.heap.size, 0, none⟩) 1 1) 1 [.int .i64 y.1, .int .i64 y.2]) := World.ownsRow_lit (base := w.heap.size) (e := 31) (size := 2) w4 #[.int .i64 y.1, .int .i64 y.2] 1 HB4.out.size (by unfold maxLen; omega) rfl
      have HO5 := hide (HO4.out.alloc (.cells #[.int .i64 y.1, .int .i64 y.2] 31))
      have HB5 := hide (HB4.out.alloc HB4.out.size (.cells #[.int .i64 y.1, .int .i64 y.2] 31))
      clear b4 hc HO4 HRT HR3
      go_wp2_with (at_builtin; go_loud (refine wpList_appOw _ (by first | rfl | decide | (simp [Region.wanted, yielded]; done)) (.tmp 31) (.tmp 32) 27 rfl w.heap.size _ 31 i0 (.agg #[.int .i64 0, .int .i64 0]) 2 16 Try.underlying27 hi hz0 hz1 hz2 rfl (by decide) _ _ _ _ rfl HO5.out oneR _ _ _ rfl HE.out ?n1 ?n2 ?n3 ?_))
      case n1 => unfold maxLen; first | omega | (simp; done) | (simp; omega)
      case n2 => first | omega | (simp; done) | (simp; omega)
      case n3 => exact HB5.out.size
      intro A6 n6 c6 w6 hn6 o6 g6
      have HB6 := hide (HB5.out.grown g6 HB5.out.size (fun k hk => (HE.out.lt k hk).1))
      have HR6 := hide (show Rd w6 w6.heap.size A6 (cellsOf rowC (y :: y :: [])) from Rd.of_own o6)
      have hn6' : n6 = (y :: y :: []).length := by rw [hn6]; first | omega | (simp; done) | (simp; omega)
      clear o6 g6 HO5 HE HB5 q0 q1 hn6
      subst hn6'
      go_wp2_with fail
      refine (rowsValid_any A6 (y :: y :: []) c6 w6 HR6.out (by unfold maxLen; first | omega | (simp; done) | (simp; omega))).mono ?_
      rintro e w7 ⟨rfl, b7⟩
      rw [H2.out]
      have HB7 := hide (HB6.out.trans (b7.mono HB6.out.size))
      clear b7
      go_wp2_with fail
      go_ret
      exact ⟨rfl, HB7.out⟩
    · go_wp2_with fail
      refine (rowsValid_any _ r _ w3 HRT.out (by omega)).mono ?_
      rintro e w4 ⟨rfl, b4⟩
      rw [HT.out]
      have HO4 := hide (own_call b4 HO3.out)
      have HB4 := hide (HB3.out.trans (b4.mono HB3.out.size))
      obtain ⟨b, off, e', hbg, hc⟩ := (Rd.of_own HO4.out).row rowC_len (by decide) (k := 0) (by simp)
      simp only [Option.some.injEq, Addr.mk.injEq, and_true] at e'
      obtain ⟨rfl, rfl⟩ := e'
      have q0 := hc 0 _ rfl
      have q1 := hc 1 _ rfl
      simp only [List.getElem_cons_zero, Nat.zero_mul, Nat.add_zero] at q0 q1
      have HE : Hid ((w4.alloc (.cells #[.int .i64 y.1, .int .i64 y.2] 31)).ownsRow w.heap.size 31 2 (.slice (some ⟨w4.heap.size, 0, none⟩) 1 1) 1 [.int .i64 y.1, .int .i64 y.2]) := World.ownsRow_lit (base := w.heap.size) (e := 31) (size := 2) w4 #[.int .i64 y.1, .int .i64 y.2] 1 HB4.out.size (by unfold maxLen; omega) rfl
      have HO5 := hide (HO4.out.alloc (.cells #[.int .i64 y.1, .int .i64 y.2] 31))
      have HB5 := hide (HB4.out.alloc HB4.out.size (.cells #[.int .i64 y.1, .int .i64 y.2] 31))
      clear b4 hc HO4 HRT HR3
      go_wp2_with (at_builtin; go_loud (refine wpList_appOw _ (by first | rfl | decide | (simp [Region.wanted, yielded]; done)) (.tmp 31) (.tmp 32) 27 rfl w.heap.size _ 31 i0 (.agg #[.int .i64 0, .int .i64 0]) 2 16 Try.underlying27 hi hz0 hz1 hz2 rfl (by decide) _ _ _ _ rfl HO5.out oneR _ _ _ rfl HE.out ?n1 ?n2 ?n3 ?_))
      case n1 => unfold maxLen; first | omega | (simp; done) | (simp; omega)
      case n2 => first | omega | (simp; done) | (simp; omega)
      case n3 => exact HB5.out.size
      intro A6 n6 c6 w6 hn6 o6 g6
      have HB6 := hide (HB5.out.grown g6 HB5.out.size (fun k hk => (HE.out.lt k hk).1))
      have HR6 := hide (show Rd w6 w6.heap.size A6 (cellsOf rowC (y :: y :: r)) from Rd.of_own o6)
      have hn6' : n6 = (y :: y :: r).length := by rw [hn6]; first | omega | (simp; done) | (simp; omega)
      clear o6 g6 HO5 HE HB5 q0 q1 hn6
      subst hn6'
      go_wp2_with fail
      refine (rowsValid_any A6 (y :: y :: r) c6 w6 HR6.out (by unfold maxLen; first | omega | (simp; done) | (simp; omega))).mono ?_
      rintro e w7 ⟨rfl, b7⟩
      rw [H2.out]
      have HB7 := hide (HB6.out.trans (b7.mono HB6.out.size))
      clear b7
      go_wp2_with fail
      go_ret
      exact ⟨rfl, HB7.out⟩
  · cases hv : rowsOk ys
    · go_wp2_with fail
      refine (alive_any _).mono ?_
      rintro e w' ⟨rfl, rfl⟩
      go_wp2_with fail
      go_ret
      exact ⟨rfl, HB3.out⟩
    · have hn : ys.length = 0 := by
        apply Classical.byContradiction
        intro h
        exact hg ⟨hv, h⟩
      clear hg hv
      go_wp2_with fail
      refine (alive_any _).mono ?_
      rintro e w' ⟨rfl, rfl⟩
      go_wp2_with fail
      go_ret
      exact ⟨rfl, HB3.out⟩
end Go.Proofs.Ytndnmbhhfiacaaa.WFnRowsValid
