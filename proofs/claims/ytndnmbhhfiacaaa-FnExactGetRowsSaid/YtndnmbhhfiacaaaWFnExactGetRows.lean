/- The walk of FnExactGetRows: the program and the reference answer alike, the arguments read as they did, and the answer's memory is its own. -/
import Derived.Test.YtndnmbhhfiacaaaCGetRows
import Derived.Test.YtndnmbhhfiacaaaCBytes
import Derived.Test.YtndnmbhhfiacaaaCRows
import Derived.Test.YtndnmbhhfiacaaaBase2
namespace Go.Proofs.Ytndnmbhhfiacaaa.WFnExactGetRows
set_option maxRecDepth 200000
open Go.ChangeShapes Go.WideShapes Go.ChangeAt Go.RowKit Kit CRows CGetRows PGetRows CBytes
theorem walk (Azs : Option Addr) (zs : List Int) (czs : Nat) (hl0 : zs.length ≤ czs) (hc0 : czs ≤ maxLen) (hz0 : InR 0 255 zs) (w : World) (hr0 : Rd w w.heap.size Azs (ints .u8 zs)) :
    Calls Try.prog 20 #[.slice Azs zs.length czs] w (LawEnds w) := by
  by_cases hbig0 : 1048576 < zs.length
  · have hk := hc0
    unfold maxLen at hk
    go_enter Try.func20, Try.ntmps20
    go_wp2_with fail
    go_ret
    exact ⟨rfl, Below.refl _ _⟩
  have hm0 : zs.length ≤ 1048576 := by omega
  have hn0 : zs.length ≤ maxLen := by unfold maxLen; omega
  obtain ⟨hTl, _⟩ := And.intro (getRows_len zs) trivial
  generalize hT : (growsOf zs).1 = T at *
  have HT := hide hT
  generalize hV : (growsOf zs).2 = V at *
  have HV := hide hV
  have hTm : T.length ≤ maxLen := by unfold maxLen; omega
  clear hbig0 hc0 hl0 hT hV
  have B0 := Below.refl w.heap.size w
  go_enter Try.func20, Try.ntmps20
  go_wp2_with fail
  refine (CBytes.toByteS_any Azs zs czs w ((hr0.below B0).more B0.size) hm0).mono ?_
  rintro e w1 ⟨A1, c1, rfl, o1, b1⟩
  have B1 := B0.trans (b1.mono B0.size)
  clear B0 b1
  have o_x1 := o1
  clear o1
  go_wp2_with fail
  refine (getRowsS_any A1 zs c1 w1 (Rd.of_own o_x1) hz0 hm0 (own_cap o_x1)).mono ?_
  rw [HT.out]
  rw [HV.out]
  rintro e w2 ⟨A2, c2, rfl, o2, b2⟩
  have B2 := B1.trans (b2.mono B1.size)
  replace o_x1 := own_call b2 o_x1
  clear B1 b2
  have o_w := o2
  clear o2
  go_wp2_with fail
  have r_w := Rd.of_own o_w
  clear o_w o_x1
  have D2 := Below.refl w2.heap.size w2
  have sa0 := D2.size
  refine (CBytes.toByteS_any Azs zs czs w2 ((hr0.below B2).more B2.size) hm0).mono ?_
  rintro e w3 ⟨A3, c3, rfl, o3, b3⟩
  have D3 := D2.trans (b3.mono D2.size)
  clear D2 b3
  have o_a0 := o3
  clear o3
  have l_a0 := fun k hk => (o_a0.lt k hk).2
  go_wp2_with fail
  have l_a0_g := l_a0
  have sg := D3.size
  refine (getRows_any A3 zs c3 w3 (Rd.of_own o_a0) hz0 hm0 (own_cap o_a0)).mono ?_
  rw [HT.out]
  rw [HV.out]
  rintro e w4 ⟨A4, c4, rfl, o4, b4⟩
  have D4 := D3.trans (b4.mono D3.size)
  replace o_a0 := own_call b4 o_a0
  replace l_a0 := fun k hk => Nat.lt_of_lt_of_le (l_a0 k hk) b4.size
  clear D3 b4
  have o_g := o4
  clear o4
  go_wp2_with fail
  refine (CRows.eqRowS_same A4 A2 T c4 c2 w4 (Rd.of_own o_g) ((r_w.below D4).more D4.size) hTm).mono ?_
  rintro e w5 ⟨rfl, b5⟩
  have D5 := D4.trans (b5.mono D4.size)
  replace o_a0 := own_call b5 o_a0
  replace o_g := own_call b5 o_g
  replace l_a0 := fun k hk => Nat.lt_of_lt_of_le (l_a0 k hk) b5.size
  clear D4 b5
  go_wp2_with fail
  refine (CBytes.toByteS_any Azs zs czs w5 ((hr0.below (B2.trans (D5.mono B2.size))).more (Nat.le_trans B2.size D5.size)) hm0).mono ?_
  rintro e w6 ⟨A6, c6, rfl, o6, b6⟩
  have D6 := D5.trans (b6.mono D5.size)
  replace o_a0 := own_call b6 o_a0
  replace o_g := own_call b6 o_g
  replace l_a0 := fun k hk => Nat.lt_of_lt_of_le (l_a0 k hk) b6.size
  clear D5 b6
  have o_x6 := o6
  clear o6
  go_wp2_with fail
  refine (CBytes.eqByteS_any A3 A6 zs zs c3 c6 _ w6 (Rd.of_own o_a0) (Rd.of_own o_x6) hn0 hn0).mono ?_
  rintro e w7 ⟨rfl, n7, hw⟩
  simp only [beq_self_eq_true]
  have b7 : Below w6.heap.size w6 w7 := by rw [hw]; exact Kit.Below.drewN (Below.refl _ _) n7
  clear hw
  have D7 := D6.trans (b7.mono D6.size)
  replace o_a0 := own_call b7 o_a0
  replace o_g := own_call b7 o_g
  replace o_x6 := own_call b7 o_x6
  replace l_a0 := fun k hk => Nat.lt_of_lt_of_le (l_a0 k hk) b7.size
  clear D6 b7
  go_wp2_with fail
  clear o_x6
  refine (CBytes.mark_any _ A3 c3 zs 1 w7 (by omega) (by omega) (by omega) o_a0).mono ?_
  rintro e w8 ⟨rfl, p8, g8⟩
  have D8 := D7.grown g8 D7.size (fun k hk => Nat.le_trans sa0 (o_a0.lt k hk).1)
  replace o_g := own_apart o_g g8 l_a0_g
  clear D7 g8 o_a0
  go_wp2_with fail
  clear p8
  refine (CRows.eqRowS_same A4 A2 T c4 c2 w8 (Rd.of_own o_g) ((r_w.below D8).more D8.size) hTm).mono ?_
  rintro e w9 ⟨rfl, b9⟩
  have D9 := D8.trans (b9.mono D8.size)
  replace o_g := own_call b9 o_g
  clear D8 b9
  go_wp2_with fail
  refine (CRows.mark_any _ A4 c4 T.length _ 1 w9 (by omega) (by omega) (by omega) o_g).mono ?_
  rintro e w10 ⟨rfl, p10, g10⟩
  have D10 := D9.grown g10 D9.size (fun k hk => Nat.le_trans sg (o_g.lt k hk).1)
  clear D9 g10 o_g
  go_wp2_with fail
  have o_p := p10
  clear p10
  refine (CRows.held_any _ A4 c4 T.length 1 w10 (by omega) (by omega) (by omega) (Rd.of_own o_p)).mono ?_
  rintro e w' ⟨rfl, rfl⟩
  go_wp2_with fail
  refine (CBytes.toByteS_any Azs zs czs w10 ((hr0.below (B2.trans (D10.mono B2.size))).more (Nat.le_trans B2.size D10.size)) hm0).mono ?_
  rintro e w11 ⟨A11, c11, rfl, o11, b11⟩
  have D11 := D10.trans (b11.mono D10.size)
  replace o_p := own_call b11 o_p
  clear D10 b11
  have o_x11 := o11
  clear o11
  go_wp2_with fail
  refine (getRows_any A11 zs c11 w11 (Rd.of_own o_x11) hz0 hm0 (own_cap o_x11)).mono ?_
  rw [HT.out]
  rw [HV.out]
  rintro e w12 ⟨A12, c12, rfl, o12, b12⟩
  have D12 := D11.trans (b12.mono D11.size)
  replace o_p := own_call b12 o_p
  replace o_x11 := own_call b12 o_x11
  clear D11 b12
  have o_h := o12
  clear o12
  go_wp2_with fail
  refine (CRows.eqRowS_same A12 A2 T c12 c2 w12 (Rd.of_own o_h) ((r_w.below D12).more D12.size) hTm).mono ?_
  rintro e w13 ⟨rfl, b13⟩
  have D13 := D12.trans (b13.mono D12.size)
  replace o_p := own_call b13 o_p
  replace o_x11 := own_call b13 o_x11
  replace o_h := own_call b13 o_h
  clear D12 b13
  go_wp2_with fail
  refine (CRows.held_any _ A4 c4 T.length 1 w13 (by omega) (by omega) (by omega) (Rd.of_own o_p)).mono ?_
  rintro e w' ⟨rfl, rfl⟩
  go_wp2_with fail
  go_ret
  exact ⟨rfl, B2.trans (D13.mono B2.size)⟩
end Go.Proofs.Ytndnmbhhfiacaaa.WFnExactGetRows
