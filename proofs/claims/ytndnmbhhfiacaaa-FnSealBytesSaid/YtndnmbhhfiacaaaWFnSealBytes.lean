/- The walk of FnSealBytes: sealed bytes can be opened. -/
import Derived.Test.YtndnmbhhfiacaaaDBytes
import Derived.Test.YtndnmbhhfiacaaaCSeal
import Derived.Test.YtndnmbhhfiacaaaPSeal2
import Derived.Test.YtndnmbhhfiacaaaCSame
import Derived.Test.YtndnmbhhfiacaaaCAlive
namespace Go.Proofs.Ytndnmbhhfiacaaa.WFnSealBytes
set_option maxRecDepth 200000
open Go.ChangeShapes Go.WideShapes Go.ChangeAt Go.RowKit Kit CCode CSumOf CNumber PSeal PSeal2 CSeal CSame DPick DVar DBytes CAlive
theorem draw_any {A : Option Addr} {zs : List Int} {c : Nat} {w : World} (hr : Rd w w.heap.size A (ints .u8 zs)) (hz : InR 0 255 zs) (hc : zs.length ≤ c) (hcm : c ≤ maxLen) :
    Calls Try.prog 71 #[.slice A zs.length c] w (fun e w' => ∃ (A' : Option Addr) (ys : List Int) (c' : Nat), e = .returned (.slice A' ys.length c') ∧ ys.length ≤ 2001 ∧ InR 0 255 ys ∧ w'.ownsRow w.heap.size 5 1 (.slice A' ys.length c') ys.length (ints .u8 ys) ∧ Below w.heap.size w w') := by
  obtain ⟨i0, hi, hz0, hz1, hz2⟩ := info_parts CBytes8.info8
  have HO := hide (open_any A zs c w hr hz hc hcm)
  clear hr hz hc hcm
  go_enter Try.func71, Try.ntmps71
  go_wp2_with fail
  refine HO.out.mono ?_
  rintro e w1 ⟨R, rfl, T, b1⟩
  have T0 := Tp.start T
  have hRl := T.1
  have HB := hide b1
  clear T b1
  go_wp2_with fail
  refine (odd_tp (by first | with_reducible assumption | exact Tp.alloc (by with_reducible assumption) _ | exact Tp.alloc (Tp.alloc (by with_reducible assumption) _) _ | exact Tp.drewN (by with_reducible assumption) _ | exact Tp.drew (by with_reducible assumption) | exact Tp.drawn (by with_reducible assumption) | exact Tp.alloc (Tp.drewN (by with_reducible assumption) _) _ | exact Tp.alloc (Tp.drew (by with_reducible assumption)) _ | exact Tp.alloc (Tp.alloc (Tp.alloc (by with_reducible assumption) _) _) _) (by omega) _ (by omega) (by omega)).mono ?_
  rintro e w2 ⟨bo, rfl, T2, g2⟩
  have hR2 := T2.lt
  have B2 := T2.below HB.out.size hRl
  have HB2 := hide (HB.out.trans B2)
  clear T0 g2 B2
  cases bo
  · go_wp2_with fail
    refine (bytes_any T2 (by omega) (by omega) 20 (by omega)).mono ?_
    rintro e w3 ⟨A', ys, c', rfl, y0, y1, o3, T3⟩
    go_wp2_with fail
    go_ret
    exact ⟨A', ys, c', rfl, by omega, y1, own_base o3 HB2.out.size, HB.out.trans (T3.below HB.out.size hRl)⟩
  · have hs2 := HB2.out.size
    go_wp2_with (at_make; refine wpList_make_full _ rfl _ _ _ rfl w.heap.size 5 i0 (.int .u8 0) 1 Try.underlying22 hi hz0 hz1 .i64 .i64 _ _ 2001 rfl rfl rfl rfl ?c1 ?c2 ?c3 ?_)
    case c1 => rw [hz2]; omega
    case c2 => unfold maxLen; omega
    case c3 => exact hs2
    intro w3 hown hg
    rw [zero_cells'] at hown
    have HB3 := hide (HB2.out.grown hg hs2 (by intro k h; cases h))
    have HO3 := hide hown
    clear hg hown T2
    go_wp2
    go_ret
    refine ⟨some ⟨w2.heap.size, 0, none⟩, List.replicate 2001 0, 2001, by simp, by simp, fun x hx => ?_, by simpa using HO3.out, HB3.out⟩
    have := List.eq_of_mem_replicate hx
    omega
theorem walk (A : Option Addr) (zs : List Int) (c : Nat) (hl : zs.length ≤ c) (hc : c ≤ maxLen) (hz : InR 0 255 zs) (w : World) (hr : Rd w w.heap.size A (ints .u8 zs)) :
    Calls Try.prog 16 #[.slice A zs.length c] w (LawEnds w) := by
  obtain ⟨i0, hi, hz0, hz1, hz2⟩ := info_parts CBytes8.info8
  have hcm := hc
  unfold maxLen at hcm
  have HD := hide (draw_any hr hz hl hc)
  clear hr hz hc
  by_cases hbig : 1048576 < zs.length
  · go_enter Try.func16, Try.ntmps16
    go_wp2_with fail
    go_ret
    exact ⟨rfl, Below.refl _ _⟩
  go_enter Try.func16, Try.ntmps16
  go_wp2_with fail
  refine HD.out.mono ?_
  rintro e w1 ⟨A1, ys, c1, rfl, l1, r1, o1, b1⟩
  have HB := hide b1
  have HO := hide o1
  have HR := hide r1
  have hym : ys.length ≤ 1048576 := by omega
  have hyM : ys.length ≤ maxLen := by unfold maxLen; omega
  clear b1 o1 r1
  go_wp2_with fail
  refine (sealBytes_any A1 ys c1 _ w1 (Rd.of_own HO.out) (Nat.le_refl _) HR.out hym (own_nil HO.out)).mono ?_
  rintro e w2 ⟨A2, c2, rfl, o2, b2⟩
  have HX2 := hide (own_base o2 HB.out.size)
  have HO2 := hide (own_call b2 HO.out)
  have HB2 := hide (HB.out.trans (b2.mono HB.out.size))
  clear o2 b2 HO HB
  go_wp2_with fail
  refine (sealBytesS_any A1 ys c1 _ w2 (Rd.of_own HO2.out) (Nat.le_refl _) HR.out hym (own_nil HO2.out)).mono ?_
  rintro e w3 ⟨A3, c3, rfl, o3, b3⟩
  have HR3 := hide (Rd.of_own o3)
  have HX3 := hide (own_call b3 HX2.out)
  have HO3 := hide (own_call b3 HO2.out)
  have HB3 := hide (HB2.out.trans (b3.mono HB2.out.size))
  obtain ⟨hsl, hsi⟩ := sealed_bd ys HR.out
  have hsM : (sealed ys).length ≤ maxLen := by unfold maxLen; omega
  have HSI := hide hsi
  clear o3 b3 HX2 HO2 HB2 hsi
  go_wp2_with fail
  refine (sameBytes_any A2 A3 (sealed ys) (sealed ys) c2 c3 w3.heap.size w3 (Rd.of_own HX3.out) HR3.out hsM hsM).mono ?_
  rintro e w' ⟨rfl, m, rfl⟩
  rw [beq_self_eq_true]
  have HB4 := hide (Kit.Below.drewN HB3.out m)
  have HX4 := hide (own_drawn (w' := w3.drewN m) HX3.out rfl)
  have HO4 := hide (own_drawn (w' := w3.drewN m) HO3.out rfl)
  generalize w3.drewN m = w4 at *
  clear HR3 HB3 HX3 HO3
  by_cases hlen : 2000 < ys.length
  · have he := sealed_no hlen
    rw [he]
    clear he HX4 HO4
    go_wp2_with fail
    refine (alive_any w4).mono ?_
    rintro e w' ⟨rfl, rfl⟩
    go_wp2_with fail
    go_ret
    exact ⟨rfl, HB4.out⟩
  · have hle : ys.length ≤ 2000 := by omega
    have HSL := hide (sealed_len hle)
    have hsp : 2 ≤ (sealed ys).length := by rw [HSL.out]; omega
    have HOP := hide (open_sealed hle)
    have HBD := hide (fun (k : Nat) hk (y : Int) hy => open_bad hle (k := k) hk (y := y) hy)
    have hcap := own_cap HX4.out
    have HOS := hide (fun (w : World) hr => openSeal_any A2 (sealed ys) c2 w.heap.size w hr (Nat.le_refl _) HSI.out (by omega) hcap)
    rw [HOP.out] at HOS
    dsimp only at HOS
    generalize sealed ys = ss at *
    have hne : ((ss.length : Int) == 0) = false := beq_eq_false_iff_ne.2 (by omega)
    clear hlen HSL HOP hcap hle
    go_wp2_with fail
    refine (HOS.out w4 (Rd.of_own HX4.out)).mono ?_
    rintro e w5 ⟨A5, c5, rfl, o5, b5⟩
    have HY5 := hide (own_base o5 HB4.out.size)
    have HX5 := hide (own_call b5 HX4.out)
    have HO5 := hide (own_call b5 HO4.out)
    have HB5 := hide (HB4.out.trans (b5.mono HB4.out.size))
    clear o5 b5 HX4 HO4 HB4 HOS
    have HX6 := hide (HX5.out.alloc (.cells #[] 5))
    have HY6 := hide (HY5.out.alloc (.cells #[] 5))
    have HO6 := hide (HO5.out.alloc (.cells #[] 5))
    have HE := hide (World.ownsRow_lit (base := w5.heap.size) (e := 5) (size := 1) w5 #[] 0 (Nat.le_refl _) (Nat.zero_le _) rfl)
    have HB6 := hide (HB5.out.alloc HB5.out.size (.cells #[] 5))
    have hs5 : w5.heap.size ≤ (w5.alloc (.cells #[] 5)).heap.size := by simp
    obtain ⟨k, e1⟩ := Int.eq_ofNat_of_zero_le (Int.emod_nonneg (zs.length : Int) (show (ss.length : Int) ≠ 0 by omega))
    have hkl := Int.emod_lt_of_pos (zs.length : Int) (show 0 < (ss.length : Int) by omega)
    rw [e1] at hkl
    have HLX := hide (fun k hk => (HX5.out.lt k hk).2)
    have HLY := hide (fun k hk => (HY5.out.lt k hk).2)
    have HLO := hide (fun k hk => (HO5.out.lt k hk).2)
    clear HX5 HY5 HO5
    go_wp2_with (at_builtin; refine wpList_appO _ rfl (.tmp 37) (.tmp 38) 22 rfl w5.heap.size _ 5 i0 (.int .u8 0) 1 1 Try.underlying22 hi hz0 hz1 hz2 rfl (by decide) _ _ _ _ rfl HX6.out oneI _ _ _ rfl HE.out ?n1 ?n2 ?n3 ?_)
    case n1 => unfold maxLen; omega
    case n2 => omega
    case n3 => exact hs5
    intro A7 n7 c7 w7 hn7 o7 g7
    have hn7 : n7 = ss.length := by omega
    subst hn7
    obtain ⟨g, rfl⟩ : ∃ g, A7 = some ⟨g, 0, none⟩ := by
      rcases o7.2 with ⟨hv, h0⟩ | ⟨g, cap, cur, hv, _⟩
      · omega
      · injection hv with hA
        exact ⟨g, hA⟩
    have o7 : w7.ownsRow w5.heap.size 5 1 (.slice (some ⟨g, 0, none⟩) ss.length c7) ss.length (ints .u8 ss) := o7
    have HB7 := hide (HB6.out.grown g7 HB6.out.size (fun k hk => Nat.le_trans HB5.out.size (HE.out.lt k hk).1))
    have hrow : ∀ k, (Value.slice (some ⟨w5.heap.size, 0, none⟩) 0 0).ownBlock = some k → w5.heap.size ≤ k := fun k hk => (HE.out.lt k hk).1
    have HY7 := hide (own_older HY6.out g7 HLY.out hrow)
    have HO7 := hide (own_older HO6.out g7 HLO.out hrow)
    have hkk : k < ss.length := by omega
    have hcell := o7.cellAt k (by omega)
    have hfz := o7.frozenAt k
    have hold : (ints IntKind.u8 ss)[k]? = some (Value.int .u8 ss[k]) := by
      rw [List.getElem?_eq_getElem (by simpa using hkk)]; simp
    rw [hold] at hcell
    have HO7' := hide (fun y : Int => by
      have h := (o7.stored k (.int .u8 y)).1
      rw [setInts] at h
      exact h)
    have hg5 := (o7.lt g rfl).1
    have hgB := Nat.le_trans HB5.out.size hg5
    have hyg : ∀ j, (Value.slice A5 ys.length c5).ownBlock = some j → j ≠ (⟨g, k, none⟩ : Addr).block := fun j hj => by have := HLY.out j hj; show j ≠ g; omega
    have hog : ∀ j, (Value.slice A1 ys.length c1).ownBlock = some j → j ≠ (⟨g, k, none⟩ : Addr).block := fun j hj => by have := HLO.out j hj; show j ≠ g; omega
    have HCC := hide (fun y h => HBD.out k hkk y h)
    have HRR := hide (fun y (h0 : 0 ≤ y) (h1 : y ≤ 255) => show InR 0 255 (ss.set k y) from fun x hx => by
      rcases List.mem_or_eq_of_mem_set hx with hx | rfl
      · exact HSI.out x hx
      · exact ⟨h0, h1⟩)
    obtain ⟨z0, z1⟩ := HSI.out.at_ hkk
    clear o7 g7 hold HX6 HY6 HO6 HE HB6 HB5 HLX HLY HLO HBD HSI hrow hn7
    generalize ss[k] = z at *
    by_cases hz128 : z < 128
    · go_wp2_with fail
      have HF := hide (HO7'.out (z + 1))
      have hbad := HCC.out (z + 1) (.inl rfl)
      have HI := hide (HRR.out (z + 1) (by omega) (by omega))
      have HYF := hide (own_setFar HY7.out (a := ⟨g, k, none⟩) hyg (.int .u8 (z + 1)))
      have HOF := hide (own_setFar HO7.out (a := ⟨g, k, none⟩) hog (.int .u8 (z + 1)))
      have HB8 := hide (HB7.out.setCell hgB (.int .u8 (z + 1)) (p := ⟨g, k, none⟩))
      have hcapF := own_cap HF.out
      have HOS := hide (fun (w : World) hr => openSeal_any (some ⟨g, 0, none⟩) (ss.set k (z + 1)) c7 w.heap.size w hr (Nat.le_refl _) HI.out (by rw [List.length_set]; omega) (by rw [List.length_set]; exact hcapF))
      rw [(opened_no hbad).1, (opened_no hbad).2, List.length_set] at HOS
      clear hbad HCC HRR HO7' HY7 HO7 HB7 hcapF
      go_wp2_with fail
      clear hcell hfz e1
      refine (HOS.out _ (Rd.of_own HF.out)).mono ?_
      rintro e w9 ⟨A9, c9, rfl, o9, b9⟩
      have HYG := hide (own_call b9 HYF.out)
      have HOG := hide (own_call b9 HOF.out)
      have HB9 := hide (HB8.out.trans (b9.mono HB8.out.size))
      clear o9 b9 HYF HOF HB8 HOS HF HI
      go_wp2_with fail
      refine (sameBytes_any A5 A1 ys ys c5 c1 w9.heap.size w9 (Rd.of_own HYG.out) (Rd.of_own HOG.out) hyM hyM).mono ?_
      rintro e w' ⟨rfl, m, rfl⟩
      rw [beq_self_eq_true]
      have HBA := hide (Kit.Below.drewN HB9.out m)
      clear HYG HOG
      go_wp2_with fail
      go_ret
      exact ⟨rfl, HBA.out⟩
    · have hz129 : 128 ≤ z := by omega
      have hd : decide (z < 128) = false := by simp; omega
      clear hz128
      have HF := hide (HO7'.out (z - 1))
      have hbad := HCC.out (z - 1) (.inr rfl)
      have HI := hide (HRR.out (z - 1) (by omega) (by omega))
      have HYF := hide (own_setFar HY7.out (a := ⟨g, k, none⟩) hyg (.int .u8 (z - 1)))
      have HOF := hide (own_setFar HO7.out (a := ⟨g, k, none⟩) hog (.int .u8 (z - 1)))
      have HB8 := hide (HB7.out.setCell hgB (.int .u8 (z - 1)) (p := ⟨g, k, none⟩))
      have hcapF := own_cap HF.out
      have HOS := hide (fun (w : World) hr => openSeal_any (some ⟨g, 0, none⟩) (ss.set k (z - 1)) c7 w.heap.size w hr (Nat.le_refl _) HI.out (by rw [List.length_set]; omega) (by rw [List.length_set]; exact hcapF))
      rw [(opened_no hbad).1, (opened_no hbad).2, List.length_set] at HOS
      clear hbad HCC HRR HO7' HY7 HO7 HB7 hcapF
      go_wp2_with fail
      clear hcell hfz e1
      refine (HOS.out _ (Rd.of_own HF.out)).mono ?_
      rintro e w9 ⟨A9, c9, rfl, o9, b9⟩
      have HYG := hide (own_call b9 HYF.out)
      have HOG := hide (own_call b9 HOF.out)
      have HB9 := hide (HB8.out.trans (b9.mono HB8.out.size))
      clear o9 b9 HYF HOF HB8 HOS HF HI
      go_wp2_with fail
      refine (sameBytes_any A5 A1 ys ys c5 c1 w9.heap.size w9 (Rd.of_own HYG.out) (Rd.of_own HOG.out) hyM hyM).mono ?_
      rintro e w' ⟨rfl, m, rfl⟩
      rw [beq_self_eq_true]
      have HBA := hide (Kit.Below.drewN HB9.out m)
      clear HYG HOG
      go_wp2_with fail
      go_ret
      exact ⟨rfl, HBA.out⟩
end Go.Proofs.Ytndnmbhhfiacaaa.WFnSealBytes
