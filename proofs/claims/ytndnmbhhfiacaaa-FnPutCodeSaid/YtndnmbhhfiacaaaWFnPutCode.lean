/- The walk of FnPutCode: codes can be read. -/
import Derived.Test.YtndnmbhhfiacaaaDCode
import Derived.Test.YtndnmbhhfiacaaaPCode
import Derived.Test.YtndnmbhhfiacaaaCSame
import Derived.Test.YtndnmbhhfiacaaaCAlive
import Derived.Test.YtndnmbhhfiacaaaBase3
namespace Go.Proofs.Ytndnmbhhfiacaaa.WFnPutCode
set_option maxRecDepth 200000
open Go.ChangeShapes Go.WideShapes Go.ChangeAt Go.RowKit Kit CCode CNumber CPutCode PCode CSame DPick DVar DCode CAlive
theorem draw_any {A : Option Addr} {zs : List Int} {c : Nat} {w : World} (hr : Rd w w.heap.size A (ints .u8 zs)) (hz : InR 0 255 zs) (hc : zs.length ≤ c) (hcm : c ≤ maxLen) :
    Calls Try.prog 66 #[.slice A zs.length c] w (fun e w' => ∃ a b : Int, e = .returned (.agg #[.int .i64 a, .int .i64 b]) ∧ Below w.heap.size w w') := by
  have b0 : Below w.heap.size w (w.alloc (.cells #[.int .i64 0, .int .i64 0] 69)) := (by repeat (first | exact Below.refl _ _ | with_reducible assumption | (refine Below.drew ?_) | (refine Below.drewN ?_ _) | (refine Below.alloc ?_ (by simp; try omega) _) | (refine Below.setCell ?_ (by simp; try omega) _)))
  have HO := hide (open_any A zs c _ ((hr.below b0).more b0.size) hz hc hcm)
  have HX := hide (Box.new w 69 #[.int .i64 0, .int .i64 0])
  have HB0 := hide b0
  clear hr hz hc hcm b0
  go_enter Try.func66, Try.ntmps66
  go_wp2_with fail
  refine HO.out.mono ?_
  rintro e w1 ⟨R, rfl, T, b1⟩
  have T0 := Tp.start T
  have hRl := T.1
  have X1 := HX.out.call b1
  have B1 := HB0.out.trans (b1.mono HB0.out.size)
  go_wp2_with fail
  refine (code_any T0 (by omega) _ (by omega) (by omega)).mono ?_
  rintro e w2 ⟨a, b, rfl, _, _, _, _, T2⟩
  have hsz : (w.alloc (.cells #[.int .i64 0, .int .i64 0] 69)).heap.size = w.heap.size + 1 := by simp
  have X2 := X1.grown T2.2 (fun k hk => by injection hk with hk; omega)
  have B2 := B1.trans (T2.below B1.size (show w.heap.size ≤ R by omega))
  have HX2 := hide X2
  have q0 := X2.cell 0
  have q1 := X2.cell 1
  have f0 := X2.frozen 0
  have f1 := X2.frozen 1
  simp only [List.getElem?_toArray, List.getElem?_cons_zero, List.getElem?_cons_succ] at q0 q1
  clear X1 X2 T T0 T2 b1 B1 hsz HX HO HB0
  go_wp2_with fail
  have c0 := (HX2.out.set 0 (.int .i64 a)).cell 0
  have c1 := ((HX2.out.set 0 (.int .i64 a)).set 1 (.int .i64 b)).cell 1
  have c2 := ((HX2.out.set 0 (.int .i64 a)).set 1 (.int .i64 b)).cell 0
  simp only [List.setIfInBounds_toArray, List.set_cons_zero, List.set_cons_succ, List.getElem?_toArray, List.getElem?_cons_zero, List.getElem?_cons_succ] at c0 c1 c2
  exact bodyPost_ret (v := .agg #[.int .i64 a, .int .i64 b]) (by simp [results, Try.results66, go_sem, c0, c1, c2]) rfl ⟨a, b, rfl, (B2.setCell (Nat.le_refl _) _).setCell (Nat.le_refl _) _⟩
theorem walk (A : Option Addr) (zs : List Int) (c : Nat) (hl : zs.length ≤ c) (hc : c ≤ maxLen) (hz : InR 0 255 zs) (w : World) (hr : Rd w w.heap.size A (ints .u8 zs)) :
    Calls Try.prog 15 #[.slice A zs.length c] w (LawEnds w) := by
  obtain ⟨i0, hi, hz0, hz1, hz2⟩ := info_parts CNumber.info8
  have hcm := hc
  unfold maxLen at hcm
  have HD := hide (draw_any hr hz hl hc)
  clear hr hz hc
  by_cases hbig : 1048576 < zs.length
  · go_enter Try.func15, Try.ntmps15
    go_wp2_with fail
    go_ret
    exact ⟨rfl, Below.refl _ _⟩
  go_enter Try.func15, Try.ntmps15
  go_wp2_with fail
  refine HD.out.mono ?_
  rintro e w1 ⟨a, b, rfl, b1⟩
  have X1 := Box.new w1 69 #[.int .i64 a, .int .i64 b]
  have HB := hide (b1.alloc b1.size (.cells #[.int .i64 a, .int .i64 b] 69))
  have HX1 := hide X1
  clear X1 b1
  go_wp2_with fail
  refine (putCode_any a b _).mono ?_
  rintro e w2 ⟨A2, c2, rfl, o2, b2⟩
  have HO2 := hide (own_base o2 HB.out.size)
  have HB2 := hide (HB.out.trans (b2.mono HB.out.size))
  have HX2 := hide (HX1.out.call b2)
  have q0 := HX2.out.cell 0
  have q1 := HX2.out.cell 1
  simp only [List.getElem?_toArray, List.getElem?_cons_zero, List.getElem?_cons_succ] at q0 q1
  clear b2 o2 HB HX1
  go_wp2_with fail
  refine (putCodeS_any a b _).mono ?_
  rintro e w3 ⟨A3, c3, rfl, o3, b3⟩
  have HO3 := hide (own_call b3 HO2.out)
  have HR3 := hide (Rd.of_own o3)
  have HB3 := hide (HB2.out.trans (b3.mono HB2.out.size))
  have HX3 := hide (HX2.out.call b3)
  obtain ⟨hl4, hi4⟩ := pcode_bd a b
  have HI := hide hi4
  clear b3 o3 HO2 HB2 HX2 q0 q1 hi4
  go_wp2_with fail
  refine (sameBytes_any A2 A3 (pcode a b) (pcode a b) c2 c3 w3.heap.size w3 (Rd.of_own HO3.out) HR3.out (by unfold maxLen; omega) (by unfold maxLen; omega)).mono ?_
  rintro e w' ⟨rfl, m, rfl⟩
  rw [beq_self_eq_true]
  have HB4 := hide (Kit.Below.drewN HB3.out m)
  have HO4 := hide (own_drawn (w' := w3.drewN m) HO3.out rfl)
  have HX4 := hide (HX3.out.drewN m)
  generalize w3.drewN m = w4 at *
  clear HR3 HB3 HO3 HX3
  have q0 := HX4.out.cell 0
  have q1 := HX4.out.cell 1
  simp only [List.getElem?_toArray, List.getElem?_cons_zero, List.getElem?_cons_succ] at q0 q1
  have HE := hide (pcode_none (a := a) (b := b))
  have HP := hide (pcode_pos (a := a) (b := b))
  have HG := hide (gcode_put (a := a) (b := b))
  generalize pcode a b = v at *
  go_wp2_with fail
  refine (codeValidS_any a b _).mono ?_
  rintro e w5 ⟨rfl, b5⟩
  have HO5 := hide (own_call b5 HO4.out)
  have HB5 := hide (HB4.out.trans (b5.mono HB4.out.size))
  have HX5 := hide (HX4.out.call b5)
  clear b5 HO4 HB4 HX4 q0 q1
  cases hv : codeOk a b
  · have hnil := HE.out hv
    subst hnil
    clear hv HE HP HG HI HO5
    go_wp2_with fail
    refine (alive_any _).mono ?_
    rintro e w' ⟨rfl, rfl⟩
    go_wp2_with fail
    go_ret
    exact ⟨rfl, HB5.out⟩
  · have hp := HP.out hv
    have hg := HG.out hv
    have hne : ((v.length : Int) == 0) = false := beq_eq_false_iff_ne.2 (by omega)
    have HG' := hide hg
    clear HE HP HG hv hg
    have HO6 := hide (HO5.out.alloc (.cells #[.int .u8 9] 5))
    have HE6 : Hid ((w5.alloc (.cells #[.int .u8 9] 5)).ownsRow w.heap.size 5 1 (.slice (some ⟨w5.heap.size, 0, none⟩) 1 1) 1 (ints .u8 [9])) := World.ownsRow_lit (base := w.heap.size) (e := 5) (size := 1) w5 #[.int .u8 9] 1 HB5.out.size (by unfold maxLen; omega) rfl
    have HB6 := hide (HB5.out.alloc HB5.out.size (.cells #[.int .u8 9] 5))
    have HX6 := hide (HX5.out.alloc (.cells #[.int .u8 9] 5))
    clear HO5 HB5 HX5
    go_wp2_with (at_builtin; refine wpList_appO _ rfl (.tmp 29) (.tmp 30) 22 rfl w.heap.size _ 5 i0 (.int .u8 0) 1 1 Try.underlying22 hi hz0 hz1 hz2 rfl (by decide) _ _ _ _ rfl HO6.out oneI _ _ _ rfl HE6.out ?n1 ?n2 ?n3 ?_)
    case n1 => unfold maxLen; omega
    case n2 => omega
    case n3 => exact HB6.out.size
    intro A7 n7 c7 w7 hn7 o7 g7
    subst hn7
    have HB7 := hide (HB6.out.grown g7 HB6.out.size (fun k hk => (HE6.out.lt k hk).1))
    have HX7 := hide (HX6.out.grown g7 (own_box HE6.out HX6.out (by decide)))
    have o7 : w7.ownsRow w.heap.size 5 1 (.slice A7 (1 + v.length) c7) (1 + v.length) (ints .u8 (9 :: v)) := o7
    have HO7 := hide o7
    have hs7 := HB7.out.size
    clear o7 g7 HO6 HE6 HB6 HX6
    go_wp2_with (at_builtin; refine wpList_app1 w7 rfl (.tmp 31) (.tmp 32) 22 rfl w.heap.size 5 i0 (.int .u8 0) 1 1 Try.underlying22 hi hz0 hz1 hz2 rfl (by decide) _ rfl rfl ?o1 _ _ _ rfl HO7.out ?n1 ?n2 ?n3 ?_)
    case o1 => rfl
    case n1 => unfold maxLen; omega
    case n2 => omega
    case n3 => exact hs7
    intro A8 n8 c8 w8 hn8 o8 g8
    have HB8 := hide (HB7.out.grown g8 hs7 (fun k hk => (HO7.out.lt k hk).1))
    have HX8 := hide (HX7.out.grown g8 (own_box HO7.out HX7.out (by decide)))
    have o8 : w8.ownsRow w.heap.size 5 1 (.slice A8 n8 c8) n8 (ints .u8 (9 :: (v ++ [9]))) := by
      have e : ints .u8 (9 :: (v ++ [9])) = ints .u8 (9 :: v) ++ [Value.int .u8 9] := by simp [ints]
      rw [e]
      exact o8
    have hn8' : n8 = (9 :: (v ++ [9]) : List Int).length := by rw [hn8]; simp; omega
    clear hn8 g8 HO7 HB7 HX7
    subst hn8'
    have HO8 := hide o8
    clear o8
    have HZ8 : Hid (InR 0 255 (9 :: (v ++ [9]))) := fun x hx => by
      simp only [List.mem_append, List.mem_cons, List.not_mem_nil, or_false] at hx
      rcases hx with rfl | hx | rfl
      · omega
      · exact HI.out x hx
      · omega
    have hl8 : (9 :: (v ++ [9]) : List Int).length ≤ 1048576 := by simp; omega
    have HGV := hide (getCode_any A8 (9 :: (v ++ [9])) c8 1 w8 (Rd.of_own HO8.out) HZ8.out hl8)
    rw [HG'.out] at HGV
    simp only [gval] at HGV
    generalize (9 :: (v ++ [9]) : List Int) = zs8 at *
    clear HG' HO8 HZ8 hl8 HI
    go_wp2_with fail
    refine HGV.out.mono ?_
    rintro e w9 ⟨rfl, b9⟩
    have HB9 := hide (HB8.out.trans (b9.mono HB8.out.size))
    have X9 := HX8.out.call b9
    have q0 := X9.cell 0
    have q1 := X9.cell 1
    have hlt9 := X9.lt
    simp only [List.getElem?_toArray, List.getElem?_cons_zero, List.getElem?_cons_succ] at q0 q1
    clear b9 HB8 HGV HX8 X9
    go_wp2_with fail
    all_goals (go_ret; exact ⟨ret_bool (by first | rfl | (simp; done) | (simp; omega) | omega), HB9.out.alloc HB9.out.size _⟩)
end Go.Proofs.Ytndnmbhhfiacaaa.WFnPutCode
