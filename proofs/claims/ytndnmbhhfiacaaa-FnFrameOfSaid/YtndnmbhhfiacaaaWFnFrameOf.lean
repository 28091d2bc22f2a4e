/- The walk of FnFrameOf: addresses are in one frame. -/
import Derived.Test.YtndnmbhhfiacaaaDFrames
import Derived.Test.YtndnmbhhfiacaaaPFrames
import Derived.Test.YtndnmbhhfiacaaaCAlive
namespace Go.Proofs.Ytndnmbhhfiacaaa.WFnFrameOf
set_option maxRecDepth 200000
open Go.ChangeShapes Go.WideShapes Go.ChangeAt Go.RowKit Kit CCode CFrames CFramesValid PFrames DPick DVar DFrames CAlive
theorem draw_any {A : Option Addr} {zs : List Int} {c : Nat} {w : World} (hr : Rd w w.heap.size A (ints .u8 zs)) (hz : InR 0 255 zs) (hc : zs.length ≤ c) (hcm : c ≤ maxLen) :
    Calls Try.prog 41 #[.slice A zs.length c] w (fun e w' => ∃ (A' : Option Addr) (ys : List CFrames.D) (c' : Nat) (a : Int), e = .returned (.tuple #[.slice A' ys.length c', .int .i64 a]) ∧ ys.length ≤ 7 ∧ (∀ z ∈ ys, SmallF z) ∧ -1 ≤ a ∧ a ≤ 100 ∧ w'.ownsRow w.heap.size 36 3 (.slice A' ys.length c') ys.length (cellsOf frameC ys) ∧ Below w.heap.size w w') := by
  have HO := hide (open_any A zs c w hr hz hc hcm)
  clear hr hz hc hcm
  go_enter Try.func41, Try.ntmps41
  go_wp2_with fail
  refine HO.out.mono ?_
  rintro e w1 ⟨R, rfl, T, b1⟩
  have T0 := Tp.start T
  have hRl := T.1
  have HB := hide b1
  clear T b1
  go_wp2_with fail
  refine (frames_any T0 (by omega) (by omega) _ (by omega) (by omega)).mono ?_
  rintro e w2 ⟨A', ys, c', rfl, y0, y1, o2, T2⟩
  have HO2 := hide o2
  have hR2 := T0.lt
  clear o2 HO T0
  go_wp2_with fail
  refine (pick_tp (by first | with_reducible assumption | exact Tp.alloc (by with_reducible assumption) _ | exact Tp.alloc (Tp.alloc (by with_reducible assumption) _) _ | exact Tp.drewN (by with_reducible assumption) _ | exact Tp.drew (by with_reducible assumption) | exact Tp.drawn (by with_reducible assumption) | exact Tp.alloc (Tp.drewN (by with_reducible assumption) _) _ | exact Tp.alloc (Tp.drew (by with_reducible assumption)) _ | exact Tp.alloc (Tp.alloc (Tp.alloc (by with_reducible assumption) _) _) _) (by omega) _ (by omega) (by omega)).mono ?_
  rintro e w3 ⟨x, rfl, x0, x1, T3, g3⟩
  have HO3 := hide (own_pick HO2.out g3 hR2)
  have HT3 := hide T3
  clear T2 g3 T3
  go_wp2_with fail
  go_ret2
  exact ⟨A', ys, c', _, rfl, y0, y1, by omega, by omega, own_base HO3.out HB.out.size, HB.out.trans (HT3.out.below HB.out.size hRl)⟩
theorem walk (A : Option Addr) (zs : List Int) (c : Nat) (hl : zs.length ≤ c) (hc : c ≤ maxLen) (hz : InR 0 255 zs) (w : World) (hr : Rd w w.heap.size A (ints .u8 zs)) :
    Calls Try.prog 8 #[.slice A zs.length c] w (LawEnds w) := by
  have hcm := hc
  unfold maxLen at hcm
  have HD := hide (draw_any hr hz hl hc)
  clear hr hz hc
  by_cases hbig : 1048576 < zs.length
  · go_enter Try.func8, Try.ntmps8
    go_wp2_with fail
    go_ret
    exact ⟨rfl, Below.refl _ _⟩
  go_enter Try.func8, Try.ntmps8
  go_wp2_with fail
  refine HD.out.mono ?_
  rintro e w1 ⟨A1, ys, c1, a, rfl, l1, r1, a0, a1, o1, b1⟩
  have HB := hide b1
  have HO := hide o1
  clear b1 o1
  have hym : ys.length ≤ maxLen := by unfold maxLen; omega
  go_wp2_with fail
  refine (frameOf_any A1 ys c1 a w1 (Rd.of_own HO.out) hym).mono ?_
  rintro e w2 ⟨rfl, b2⟩
  have HO2 := hide (own_call b2 HO.out)
  have HB2 := hide (HB.out.trans (b2.mono HB.out.size))
  clear b2 HO HB
  go_wp2_with fail
  refine (frameOfS_any A1 ys c1 a w2 (Rd.of_own HO2.out) hym).mono ?_
  rintro e w3 ⟨rfl, b3⟩
  have HO3 := hide (own_call b3 HO2.out)
  have HB3 := hide (HB2.out.trans (b3.mono HB2.out.size))
  clear b3 HO2 HB2
  have HC := hide (frameOf_cases ys a)
  generalize frameOf ys a = n at *
  go_wp2_with fail
  go_loopw [6] (fun i wr => ∃ k : Nat, k ≤ ys.length ∧ i = .int .i64 k ∧ wr.ownsRow w.heap.size 36 3 (.slice A1 ys.length c1) ys.length (cellsOf frameC ys) ∧ Below w.heap.size w wr) (fun i _ => ys.length - (intOf i).toNat)
  case atStart => exact ⟨0, Nat.zero_le _, rfl, HO3.out, HB3.out⟩
  case round =>
    obtain ⟨k, hk, rfl, ho, hb⟩ := hrel
    have HO := hide ho
    have HB := hide hb
    clear ho hb HO3 HB3
    by_cases hlt : k < ys.length
    · go_wp2_with fail
      refine (framesValid_any A1 ys c1 _ (Rd.of_own HO.out) hym).mono ?_
      rintro e w4 ⟨rfl, b4⟩
      have HO4 := hide (own_call b4 HO.out)
      have HB4 := hide (HB.out.trans (b4.mono HB.out.size))
      clear b4 HO HB
      cases hv : framesOk ys
      · have HO := HO4
        have HB := HB4
        clear HO4 HB4 hv
        (rcases HC.out with rfl | ⟨j, hj, rfl, h0, h1⟩; clear HC; go_wp2_with fail; refine (alive_any _).mono ?_; rintro e w' ⟨rfl, rfl⟩; go_wp2_with fail; go_ret; exact ⟨rfl, HB.out⟩; clear HC; obtain ⟨b, off, hA, hbg, hc⟩ := (Rd.of_own HO.out).row frameC_len (by decide) hj; subst hA; have q0 := hc 0 _ rfl; have q1 := hc 1 _ rfl; simp only [Nat.add_zero] at q0; generalize ys[j] = z at *; clear hc; have hix : ∀ W : World, (Instr.indexAt 32 (Value.slice (some { block := b, off := off }) ys.length c1) (Value.int IntKind.i64 j)).run Try.prog W = .ok (.pointer (some ⟨b, off + j * 3, none⟩)) W := (fun W => (by go_simp)); go_wp2_with fail; go_simp; go_wp2_with fail; refine (alive_any _).mono ?_; rintro e w' ⟨rfl, rfl⟩; go_wp2_with fail; go_ret; exact ⟨rfl, HB.out⟩)
      · have HF := hide (frameOf_from hv hlt)
        have HL := hide (frameOf_last hv hlt)
        obtain ⟨z0, z1, z2, z3, z4⟩ := ok_z hv hlt
        obtain ⟨b, off, hA, hbg, hc⟩ := (Rd.of_own HO4.out).row frameC_len (by decide) hlt
        subst hA
        have q0 := hc 0 _ rfl
        have q1 := hc 1 _ rfl
        simp only [Nat.add_zero] at q0
        generalize hz : ys[k] = z at *
        have HR4 := hide (Rd.of_own HO4.out)
        clear hc hz hv HC
        go_wp2_with fail
        refine (frameOf_any _ ys c1 _ _ HR4.out hym).mono ?_
        rintro e w5 ⟨rfl, b5⟩
        have HO5 := hide (own_call b5 HO4.out)
        have HB5 := hide (HB4.out.trans (b5.mono HB4.out.size))
        have q1' := (Below.cell b5 (p := ⟨b, off + k * 3 + 1, none⟩) hbg).trans q1
        rw [HF.out]
        clear b5 HO4 HB4 q0 q1 HR4
        have HR5 := hide (Rd.of_own HO5.out)
        go_wp2_with fail
        refine (frameOf_any _ ys c1 _ _ HR5.out hym).mono ?_
        rintro e w6 ⟨rfl, b6⟩
        have HO6 := hide (own_call b6 HO5.out)
        have HB6 := hide (HB5.out.trans (b6.mono HB5.out.size))
        rw [HL.out]
        clear b6 HO5 HB5 q1' HR5
        go_wp2_with fail
        refine ⟨⟨k + 1, by omega, by go_num, HO6.out, HB6.out⟩, by simp [intOf]; omega⟩
    · (rcases HC.out with rfl | ⟨j, hj, rfl, h0, h1⟩; clear HC; go_wp2_with fail; refine (alive_any _).mono ?_; rintro e w' ⟨rfl, rfl⟩; go_wp2_with fail; go_ret; exact ⟨rfl, HB.out⟩; clear HC; obtain ⟨b, off, hA, hbg, hc⟩ := (Rd.of_own HO.out).row frameC_len (by decide) hj; subst hA; have q0 := hc 0 _ rfl; have q1 := hc 1 _ rfl; simp only [Nat.add_zero] at q0; generalize ys[j] = z at *; clear hc; have hix : ∀ W : World, (Instr.indexAt 32 (Value.slice (some { block := b, off := off }) ys.length c1) (Value.int IntKind.i64 j)).run Try.prog W = .ok (.pointer (some ⟨b, off + j * 3, none⟩)) W := (fun W => (by go_simp)); go_wp2_with fail; go_simp; go_wp2_with fail; refine (alive_any _).mono ?_; rintro e w' ⟨rfl, rfl⟩; go_wp2_with fail; go_ret; exact ⟨rfl, HB.out⟩)
end Go.Proofs.Ytndnmbhhfiacaaa.WFnFrameOf
