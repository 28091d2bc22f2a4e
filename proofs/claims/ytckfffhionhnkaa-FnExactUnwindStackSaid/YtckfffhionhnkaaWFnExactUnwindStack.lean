/- The walk of FnExactUnwindStack: the program and the reference answer alike, the arguments read as they did, and the answer's memory is its own. -/
import Derived.Test.YtckfffhionhnkaaCUnwind
import Derived.Test.YtckfffhionhnkaaCFrames
import Derived.Test.YtckfffhionhnkaaCInts
import Derived.Test.YtckfffhionhnkaaBase2
import Derived.Test.YtckfffhionhnkaaIn
namespace Go.Proofs.Ytckfffhionhnkaa.WFnExactUnwindStack
set_option maxRecDepth 200000
open Go.ChangeShapes Go.WideShapes Go.ChangeAt Go.RowKit Kit CFrames CUnwind In
theorem sz_bigFrame (A : Option Addr) (n c : Nat) (w : World) (h : 1048576 < n) (hn : n ≤ maxLen) : Calls Try.prog 24 #[.slice A n c, .int .i64 1048576] w (Pure (.int .i64 (-1)) w) := by
  unfold maxLen at hn
  go_enter Try.func24, Try.ntmps24
  go_wp2
  go_ret
  exact ⟨rfl, rfl⟩
theorem sz_smallFrame (A : Option Addr) (n c : Nat) (w : World) (h : n ≤ 1048576) : Calls Try.prog 24 #[.slice A n c, .int .i64 1048576] w (Pure (.int .i64 (1048576 - n)) w) := by
  go_enter Try.func24, Try.ntmps24
  go_wp2
  go_ret
  exact ⟨rfl, rfl⟩
theorem walk (Azs : Option Addr) (zs : List CFrames.D) (czs : Nat) (hl0 : zs.length ≤ czs) (hc0 : czs ≤ maxLen) (hz0 : ∀ x ∈ zs, In.okFrame x) (Ast : Option Addr) (st : List Int) (cst : Nat) (hl1 : st.length ≤ cst) (hc1 : cst ≤ maxLen) (hz1 : InR (-9223372036854775808) 9223372036854775807 st) (x : Int) (lo2 : -9223372036854775808 ≤ x) (hi2 : x ≤ 9223372036854775807) (w : World) (hr0 : Rd w w.heap.size Azs (cellsOf frameC zs)) (hr1 : Rd w w.heap.size Ast (ints .i64 st)) :
    Calls Try.prog 3 #[.slice Azs zs.length czs, .slice Ast st.length cst, .int .i64 x] w (LawEnds w) := by
  by_cases hbig1 : 1048576 < st.length
  · have hk := hc1
    unfold maxLen at hk
    go_enter Try.func3, Try.ntmps3
    go_wp2_with fail
    go_ret
    exact ⟨rfl, Below.refl _ _⟩
  by_cases hbig0 : 1048576 < zs.length
  · have hk := hc0
    unfold maxLen at hk
    go_enter Try.func3, Try.ntmps3
    go_wp2_with fail
    refine (sz_bigFrame _ _ czs w hbig0 (Nat.le_trans hl0 hc0)).mono ?_
    rintro e w' ⟨rfl, rfl⟩
    go_wp2_with fail
    go_ret
    exact ⟨rfl, Below.refl _ _⟩
  have hm0 : zs.length ≤ 1048576 := by omega
  have hn0 : zs.length ≤ maxLen := by unfold maxLen; omega
  have hm1 : st.length ≤ 1048576 := by omega
  have hn1 : st.length ≤ maxLen := by unfold maxLen; omega
  obtain ⟨hTl, _⟩ := And.intro (unwound_len zs st x) trivial
  generalize hT : unwound zs st x = T at *
  have HT := hide hT
  have hTm : T.length ≤ maxLen := by unfold maxLen; omega
  clear hbig0 hc0 hl0 hbig1 hc1 hl1 hT
  have B0 := Below.refl w.heap.size w
  go_enter Try.func3, Try.ntmps3
  go_wp2_with fail
  refine (sz_smallFrame _ _ czs w hm0).mono ?_
  rintro e w' ⟨rfl, rfl⟩
  go_wp2_with fail
  refine (CFrames.toFrameS_any Azs zs czs w ((hr0.below B0).more B0.size) hm0).mono ?_
  rintro e w1 ⟨A1, c1, rfl, o1, b1⟩
  have B1 := B0.trans (b1.mono B0.size)
  clear B0 b1
  have o_x1 := o1
  clear o1
  go_wp2_with fail
  refine (CInts.toIntS_any Ast st cst w1 ((hr1.below B1).more B1.size) hm1).mono ?_
  rintro e w2 ⟨A2, c2, rfl, o2, b2⟩
  have B2 := B1.trans (b2.mono B1.size)
  replace o_x1 := own_call b2 o_x1
  clear B1 b2
  have o_x2 := o2
  clear o2
  go_wp2_with fail
  refine (unwindStackS_any A1 A2 zs st c1 c2 x w2 (Rd.of_own o_x1) (Rd.of_own o_x2) hn0 (own_cap o_x2) (own_capm o_x2)).mono ?_
  rw [HT.out]
  rintro e w3 ⟨A3, c3, rfl, o3, b3⟩
  have B3 := B2.trans (b3.mono B2.size)
  replace o_x1 := own_call b3 o_x1
  replace o_x2 := own_call b3 o_x2
  clear B2 b3
  have o_w := o3
  clear o3
  go_wp2_with fail
  have r_w := Rd.of_own o_w
  clear o_w o_x1 o_x2
  have D3 := Below.refl w3.heap.size w3
  have sa0 := D3.size
  refine (CFrames.toFrameS_any Azs zs czs w3 ((hr0.below B3).more B3.size) hm0).mono ?_
  rintro e w4 ⟨A4, c4, rfl, o4, b4⟩
  have D4 := D3.trans (b4.mono D3.size)
  clear D3 b4
  have o_a0 := o4
  clear o4
  have l_a0 := fun k hk => (o_a0.lt k hk).2
  go_wp2_with fail
  have l_a0_a1 := l_a0
  have sa1 := D4.size
  refine (CInts.toIntS_any Ast st cst w4 ((hr1.below (B3.trans (D4.mono B3.size))).more (Nat.le_trans B3.size D4.size)) hm1).mono ?_
  rintro e w5 ⟨A5, c5, rfl, o5, b5⟩
  have D5 := D4.trans (b5.mono D4.size)
  replace o_a0 := own_call b5 o_a0
  replace l_a0 := fun k hk => Nat.lt_of_lt_of_le (l_a0 k hk) b5.size
  clear D4 b5
  have o_a1 := o5
  clear o5
  have l_a1 := fun k hk => (o_a1.lt k hk).2
  go_wp2_with fail
  have l_a0_g := l_a0
  have l_a1_g := l_a1
  have sg := D5.size
  refine (unwindStack_any A4 A5 zs st c4 c5 x w5 (Rd.of_own o_a0) (Rd.of_own o_a1) hn0 (own_cap o_a1) (own_capm o_a1)).mono ?_
  rw [HT.out]
  rintro e w6 ⟨A6, c6, rfl, o6, b6⟩
  have D6 := D5.trans (b6.mono D5.size)
  replace o_a0 := own_call b6 o_a0
  replace o_a1 := own_call b6 o_a1
  replace l_a0 := fun k hk => Nat.lt_of_lt_of_le (l_a0 k hk) b6.size
  replace l_a1 := fun k hk => Nat.lt_of_lt_of_le (l_a1 k hk) b6.size
  clear D5 b6
  have o_g := o6
  clear o6
  go_wp2_with fail
  refine (CInts.eqIntS_any A6 A3 T T c6 c3 _ w6 (Rd.of_own o_g) ((r_w.below D6).more D6.size) hTm hTm).mono ?_
  rintro e w7 ⟨rfl, n7, hw⟩
  simp only [beq_self_eq_true]
  have b7 : Below w6.heap.size w6 w7 := by rw [hw]; exact Kit.Below.drewN (Below.refl _ _) n7
  clear hw
  have D7 := D6.trans (b7.mono D6.size)
  replace o_a0 := own_call b7 o_a0
  replace o_a1 := own_call b7 o_a1
  replace o_g := own_call b7 o_g
  replace l_a0 := fun k hk => Nat.lt_of_lt_of_le (l_a0 k hk) b7.size
  replace l_a1 := fun k hk => Nat.lt_of_lt_of_le (l_a1 k hk) b7.size
  clear D6 b7
  go_wp2_with fail
  refine (CFrames.toFrameS_any Azs zs czs w7 ((hr0.below (B3.trans (D7.mono B3.size))).more (Nat.le_trans B3.size D7.size)) hm0).mono ?_
  rintro e w8 ⟨A8, c8, rfl, o8, b8⟩
  have D8 := D7.trans (b8.mono D7.size)
  replace o_a0 := own_call b8 o_a0
  replace o_a1 := own_call b8 o_a1
  replace o_g := own_call b8 o_g
  replace l_a0 := fun k hk => Nat.lt_of_lt_of_le (l_a0 k hk) b8.size
  replace l_a1 := fun k hk => Nat.lt_of_lt_of_le (l_a1 k hk) b8.size
  clear D7 b8
  have o_x8 := o8
  clear o8
  go_wp2_with fail
  refine (CFrames.eqFrameS_same A4 A8 zs c4 c8 w8 (Rd.of_own o_a0) (Rd.of_own o_x8) hn0).mono ?_
  rintro e w9 ⟨rfl, b9⟩
  have D9 := D8.trans (b9.mono D8.size)
  replace o_a0 := own_call b9 o_a0
  replace o_a1 := own_call b9 o_a1
  replace o_g := own_call b9 o_g
  replace o_x8 := own_call b9 o_x8
  replace l_a0 := fun k hk => Nat.lt_of_lt_of_le (l_a0 k hk) b9.size
  replace l_a1 := fun k hk => Nat.lt_of_lt_of_le (l_a1 k hk) b9.size
  clear D8 b9
  go_wp2_with fail
  clear o_x8
  refine (CInts.toIntS_any Ast st cst w9 ((hr1.below (B3.trans (D9.mono B3.size))).more (Nat.le_trans B3.size D9.size)) hm1).mono ?_
  rintro e w10 ⟨A10, c10, rfl, o10, b10⟩
  have D10 := D9.trans (b10.mono D9.size)
  replace o_a0 := own_call b10 o_a0
  replace o_a1 := own_call b10 o_a1
  replace o_g := own_call b10 o_g
  replace l_a0 := fun k hk => Nat.lt_of_lt_of_le (l_a0 k hk) b10.size
  replace l_a1 := fun k hk => Nat.lt_of_lt_of_le (l_a1 k hk) b10.size
  clear D9 b10
  have o_x10 := o10
  clear o10
  go_wp2_with fail
  refine (CInts.eqIntS_any A5 A10 st st c5 c10 _ w10 (Rd.of_own o_a1) (Rd.of_own o_x10) hn1 hn1).mono ?_
  rintro e w11 ⟨rfl, n11, hw⟩
  simp only [beq_self_eq_true]
  have b11 : Below w10.heap.size w10 w11 := by rw [hw]; exact Kit.Below.drewN (Below.refl _ _) n11
  clear hw
  have D11 := D10.trans (b11.mono D10.size)
  replace o_a0 := own_call b11 o_a0
  replace o_a1 := own_call b11 o_a1
  replace o_g := own_call b11 o_g
  replace o_x10 := own_call b11 o_x10
  replace l_a0 := fun k hk => Nat.lt_of_lt_of_le (l_a0 k hk) b11.size
  replace l_a1 := fun k hk => Nat.lt_of_lt_of_le (l_a1 k hk) b11.size
  clear D10 b11
  go_wp2_with fail
  clear o_x10
  refine (CFrames.mark_any _ A4 c4 zs.length _ 1 w11 (by omega) (by omega) (by omega) o_a0).mono ?_
  rintro e w12 ⟨rfl, p12, g12⟩
  have D12 := D11.grown g12 D11.size (fun k hk => Nat.le_trans sa0 (o_a0.lt k hk).1)
  replace o_a1 := own_apart o_a1 g12 l_a0_a1
  replace o_g := own_apart o_g g12 l_a0_g
  clear D11 g12 o_a0
  go_wp2_with fail
  clear p12
  refine (CInts.mark_any _ A5 c5 st (1 + 3 * (zs.length : Int)) w12 (by omega) (by omega) (by omega) o_a1).mono ?_
  rintro e w13 ⟨rfl, p13, g13⟩
  have D13 := D12.grown g13 D12.size (fun k hk => Nat.le_trans sa1 (o_a1.lt k hk).1)
  replace o_g := own_apart o_g g13 l_a1_g
  clear D12 g13 o_a1
  go_wp2_with fail
  clear p13
  refine (CInts.eqIntS_any A6 A3 T T c6 c3 _ w13 (Rd.of_own o_g) ((r_w.below D13).more D13.size) hTm hTm).mono ?_
  rintro e w14 ⟨rfl, n14, hw⟩
  simp only [beq_self_eq_true]
  have b14 : Below w13.heap.size w13 w14 := by rw [hw]; exact Kit.Below.drewN (Below.refl _ _) n14
  clear hw
  have D14 := D13.trans (b14.mono D13.size)
  replace o_g := own_call b14 o_g
  clear D13 b14
  go_wp2_with fail
  refine (CInts.mark_any _ A6 c6 T 1 w14 (by omega) (by omega) (by omega) o_g).mono ?_
  rintro e w15 ⟨rfl, p15, g15⟩
  have D15 := D14.grown g15 D14.size (fun k hk => Nat.le_trans sg (o_g.lt k hk).1)
  clear D14 g15 o_g
  go_wp2_with fail
  have o_p := p15
  clear p15
  refine (CInts.held_any _ A6 c6 T.length 1 w15 (by omega) (by omega) (by omega) (Rd.of_own o_p)).mono ?_
  rintro e w' ⟨rfl, rfl⟩
  go_wp2_with fail
  refine (CFrames.toFrameS_any Azs zs czs w15 ((hr0.below (B3.trans (D15.mono B3.size))).more (Nat.le_trans B3.size D15.size)) hm0).mono ?_
  rintro e w16 ⟨A16, c16, rfl, o16, b16⟩
  have D16 := D15.trans (b16.mono D15.size)
  replace o_p := own_call b16 o_p
  clear D15 b16
  have o_x16 := o16
  clear o16
  go_wp2_with fail
  refine (CInts.toIntS_any Ast st cst w16 ((hr1.below (B3.trans (D16.mono B3.size))).more (Nat.le_trans B3.size D16.size)) hm1).mono ?_
  rintro e w17 ⟨A17, c17, rfl, o17, b17⟩
  have D17 := D16.trans (b17.mono D16.size)
  replace o_p := own_call b17 o_p
  replace o_x16 := own_call b17 o_x16
  clear D16 b17
  have o_x17 := o17
  clear o17
  go_wp2_with fail
  refine (unwindStack_any A16 A17 zs st c16 c17 x w17 (Rd.of_own o_x16) (Rd.of_own o_x17) hn0 (own_cap o_x17) (own_capm o_x17)).mono ?_
  rw [HT.out]
  rintro e w18 ⟨A18, c18, rfl, o18, b18⟩
  have D18 := D17.trans (b18.mono D17.size)
  replace o_p := own_call b18 o_p
  replace o_x16 := own_call b18 o_x16
  replace o_x17 := own_call b18 o_x17
  clear D17 b18
  have o_h := o18
  clear o18
  go_wp2_with fail
  refine (CInts.eqIntS_any A18 A3 T T c18 c3 _ w18 (Rd.of_own o_h) ((r_w.below D18).more D18.size) hTm hTm).mono ?_
  rintro e w19 ⟨rfl, n19, hw⟩
  simp only [beq_self_eq_true]
  have b19 : Below w18.heap.size w18 w19 := by rw [hw]; exact Kit.Below.drewN (Below.refl _ _) n19
  clear hw
  have D19 := D18.trans (b19.mono D18.size)
  replace o_p := own_call b19 o_p
  replace o_x16 := own_call b19 o_x16
  replace o_x17 := own_call b19 o_x17
  replace o_h := own_call b19 o_h
  clear D18 b19
  go_wp2_with fail
  refine (CInts.held_any _ A6 c6 T.length 1 w19 (by omega) (by omega) (by omega) (Rd.of_own o_p)).mono ?_
  rintro e w' ⟨rfl, rfl⟩
  go_wp2_with fail
  go_ret
  exact ⟨rfl, B3.trans (D19.mono B3.size)⟩
end Go.Proofs.Ytckfffhionhnkaa.WFnExactUnwindStack
