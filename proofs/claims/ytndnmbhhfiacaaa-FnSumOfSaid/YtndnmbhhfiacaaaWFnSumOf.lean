/- The walk of FnSumOf: sums notice single bytes. -/
import Derived.Test.YtndnmbhhfiacaaaDBytes
import Derived.Test.YtndnmbhhfiacaaaPSums
import Derived.Test.YtndnmbhhfiacaaaCAlive
namespace Go.Proofs.Ytndnmbhhfiacaaa.WFnSumOf
set_option maxRecDepth 200000
open Go.ChangeShapes Go.WideShapes Go.ChangeAt Go.RowKit Kit CSumOf PSums DPick DVar DBytes CAlive
theorem drawSumOf_any {A : Option Addr} {zs : List Int} {c : Nat} {w : World} (hr : Rd w w.heap.size A (ints .u8 zs)) (hz : InR 0 255 zs) (hc : zs.length ≤ c) (hcm : c ≤ maxLen) :
    Calls Try.prog 25 #[.slice A zs.length c] w (fun e w' => ∃ (A' : Option Addr) (ys : List Int) (c' : Nat), e = .returned (.slice A' ys.length c') ∧ ys.length ≤ 20 ∧ InR 0 255 ys ∧ w'.ownsRow w.heap.size 5 1 (.slice A' ys.length c') ys.length (ints .u8 ys) ∧ Below w.heap.size w w') := by
  have HO := hide (open_any A zs c w hr hz hc hcm)
  clear hr hz hc hcm
  go_enter Try.func25, Try.ntmps25
  go_wp2_with fail
  refine HO.out.mono ?_
  rintro e w1 ⟨R, rfl, T, b1⟩
  have T0 := Tp.start T
  have hRl := T.1
  have HB := hide b1
  clear T b1
  go_wp2_with fail
  refine (bytes_any T0 (by omega) (by omega) 20 (by omega)).mono ?_
  rintro e w2 ⟨A', ys, c', rfl, y0, y1, o2, T2⟩
  go_wp2_with fail
  go_ret
  exact ⟨A', ys, c', rfl, y0, y1, own_base o2 HB.out.size, HB.out.trans (T2.below HB.out.size hRl)⟩
theorem walk (A : Option Addr) (zs : List Int) (c : Nat) (hl : zs.length ≤ c) (hc : c ≤ maxLen) (hz : InR 0 255 zs) (w : World) (hr : Rd w w.heap.size A (ints .u8 zs)) :
    Calls Try.prog 3 #[.slice A zs.length c] w (LawEnds w) := by
  obtain ⟨i0, hi, hz0, hz1, hz2⟩ := info_parts info8
  have hcm := hc
  unfold maxLen at hcm
  have HD := hide (drawSumOf_any hr hz hl hc)
  clear hr hz hc
  by_cases hbig : 1048576 < zs.length
  · go_enter Try.func3, Try.ntmps3
    go_wp2_with fail
    go_ret
    exact ⟨rfl, Below.refl _ _⟩
  go_enter Try.func3, Try.ntmps3
  go_wp2_with fail
  refine HD.out.mono ?_
  rintro e w1 ⟨A1, ys, c1, rfl, l1, r1, o1, b1⟩
  have HB := hide b1
  have HO := hide o1
  have HR := hide r1
  clear b1 o1 r1
  have hym : ys.length ≤ maxLen := by unfold maxLen; omega
  go_wp2_with fail
  refine (sumOf_any A1 ys c1 _ w1 (Rd.of_own HO.out) HR.out hym).mono ?_
  rintro e w' ⟨rfl, rfl⟩
  go_wp2_with fail
  refine (sumOfS_any A1 ys c1 _ w1 (Rd.of_own HO.out) HR.out hym).mono ?_
  rintro e w' ⟨rfl, rfl⟩
  obtain ⟨s0, s1⟩ := sumOf_bd ys
  by_cases hy0 : ys.length = 0
  · have he : ys = [] := List.eq_nil_of_length_eq_zero hy0
    subst he
    have hs : sumOf [] = 1 := by decide
    rw [hs]
    go_wp2_with fail
    refine (alive_any w1).mono ?_
    rintro e w' ⟨rfl, rfl⟩
    go_wp2_with fail
    go_ret
    exact ⟨rfl, HB.out⟩
  · obtain ⟨m, e1⟩ := Int.eq_ofNat_of_zero_le (Int.emod_nonneg (zs.length : Int) (show (ys.length : Int) ≠ 0 by omega))
    have hm := Int.emod_lt_of_pos (zs.length : Int) (show 0 < (ys.length : Int) by omega)
    rw [e1] at hm
    have HC := hide (fun (y : Int) (hlt : m < ys.length) (h : y = ys[m] + 1 ∨ y = ys[m] - 1) => sum_changed ys m y hlt h)
    have HSR := hide (fun (w : World) (A : Option Addr) (c : Nat) y hr hz => sumOf_any A (ys.set m y) c w.heap.size w hr hz (by simpa using hym))
    generalize hs : sumOf ys = s at *
    clear hs
    have HO1 := hide (HO.out.alloc (.cells #[] 5))
    have HE := hide (own_emptyAt (E := 5) HB.out.size)
    have HB1 := hide (HB.out.alloc HB.out.size (.cells #[] 5))
    have hne : ((ys.length : Int) == 0) = false := beq_eq_false_iff_ne.2 (by omega)
    go_wp2_with (at_builtin; refine wpList_appO _ rfl (.tmp 26) (.tmp 27) 22 rfl w.heap.size _ 5 i0 (.int .u8 0) 1 1 Try.underlying22 hi hz0 hz1 hz2 rfl (by decide) _ _ _ _ rfl HO1.out oneI _ _ _ rfl HE.out ?n1 ?n2 ?n3 ?_)
    case n1 => unfold maxLen; omega
    case n2 => omega
    case n3 => exact HB1.out.size
    intro A4 n4 c4 w4 hn4 o4 g4
    subst hn4
    have B4 := HB1.out.grown g4 HB1.out.size (fun k hk => (HE.out.lt k hk).1)
    have HB4 := hide B4
    have hform : ∃ g, A4 = some ⟨g, 0, none⟩ := by
      rcases o4.2 with ⟨hv, h0⟩ | ⟨g, cap, cur, hv, _⟩
      · omega
      · injection hv with hA
        exact ⟨g, hA⟩
    obtain ⟨g, rfl⟩ := hform
    have hmy : m < ys.length := by omega
    have o4 : w4.ownsRow w.heap.size 5 1 (.slice (some ⟨g, 0, none⟩) ys.length c4) ys.length (ints .u8 ys) := o4
    have hcell := o4.cellAt m (by omega)
    have hfz := o4.frozenAt m
    have hold : (ints IntKind.u8 ys)[m]? = some (Value.int .u8 ys[m]) := by
      rw [List.getElem?_eq_getElem (by simpa using hmy)]; simp
    rw [hold] at hcell
    have HO4 := hide (fun y : Int => by
      have h := (o4.stored m (.int .u8 y)).1
      rw [setInts] at h
      exact h)
    have hgB := (o4.lt g rfl).1
    have HCC := hide (fun y h => HC.out y hmy h)
    have HRR := hide (fun y (h0 : 0 ≤ y) (h1 : y ≤ 255) => show InR 0 255 (ys.set m y) from fun x hx => by
      rcases List.mem_or_eq_of_mem_set hx with hx | rfl
      · exact HR.out x hx
      · exact ⟨h0, h1⟩)
    obtain ⟨z0, z1⟩ := HR.out.at_ hmy
    clear o4 g4 hold HO1 HE HB1 HO B4
    generalize ys[m] = z at *
    by_cases hz128 : z < 128
    · go_wp2_with fail
      have HF := hide (HO4.out (z + 1))
      have HN := hide (HCC.out (z + 1) (.inl rfl))
      have HI := hide (HRR.out (z + 1) (by omega) (by omega))
      have HSR' := hide (fun w hr => HSR.out w (some ⟨g, 0, none⟩) c4 (z + 1) hr HI.out)
      have HB5 := hide (HB4.out.setCell hgB (.int .u8 (z + 1)) (p := ⟨g, m, none⟩))
      rw [List.length_set] at HSR'
      clear HCC HRR HSR HC HO4 HR HB4 o4
      go_wp2_with fail
      clear hcell hfz e1
      refine (HSR'.out _ (Rd.of_own HF.out)).mono ?_
      rintro e w' ⟨rfl, rfl⟩
      have hn : (sumOf (ys.set m (z + 1)) != s) = true := bne_iff_ne.2 HN.out
      generalize sumOf (ys.set m (z + 1)) = s2 at *
      clear HN
      go_wp2_with fail
      go_ret
      exact ⟨rfl, HB5.out⟩
    · have hz129 : 128 ≤ z := by omega
      have hd : decide (z < 128) = false := by simp; omega
      clear hz128
      have HF := hide (HO4.out (z - 1))
      have HN := hide (HCC.out (z - 1) (.inr rfl))
      have HI := hide (HRR.out (z - 1) (by omega) (by omega))
      have HSR' := hide (fun w hr => HSR.out w (some ⟨g, 0, none⟩) c4 (z - 1) hr HI.out)
      have HB5 := hide (HB4.out.setCell hgB (.int .u8 (z - 1)) (p := ⟨g, m, none⟩))
      rw [List.length_set] at HSR'
      clear HCC HRR HSR HC HO4 HR HB4 o4
      go_wp2_with fail
      clear hcell hfz e1
      refine (HSR'.out _ (Rd.of_own HF.out)).mono ?_
      rintro e w' ⟨rfl, rfl⟩
      have hn : (sumOf (ys.set m (z - 1)) != s) = true := bne_iff_ne.2 HN.out
      generalize sumOf (ys.set m (z - 1)) = s2 at *
      clear HN
      go_wp2_with fail
      go_ret
      exact ⟨rfl, HB5.out⟩
end Go.Proofs.Ytndnmbhhfiacaaa.WFnSumOf
