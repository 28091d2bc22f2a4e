/- Contracts of the laws' helpers on Object: the copy, the comparison of equal data, the size, the marks. -/
import Derived.Test.YtmglgjchemecjaaCSections
import Derived.Test.YtmglgjchemecjaaCSecHeld
namespace Go.Proofs.Ytmglgjchemecjaa.CObject
set_option maxRecDepth 200000
open Go.ChangeShapes Go.WideShapes Go.ChangeAt Go.RowKit Kit CFixups CSymbols PObj BObj CSection CSections CMarkText CSymMarks CMarkRows CSecMarks CSecHeld
/-- What the laws' count allows. -/
def LimO (o : OV) : Prop := o.ps.length ≤ 1048576 ∧ o.ys.length ≤ 1048576 ∧ (∀ p ∈ o.ps, Lim p)
theorem ret_object {w w1 : World} {Y : Nat} {o : OV} (ho : OwnO w1 w.heap.size o) (B : Below w.heap.size w w1) (hY : ∀ k, oblk o k → k ≠ Y) (hYw : w.heap.size ≤ Y) :
    RetO o.d w (.returned o.v) ((w1.setCell ⟨Y, 0, none⟩ (.slice o.A o.ps.length o.c)).setCell ⟨Y, 1, none⟩ (.slice o.Y o.ys.length o.yc)) := by
  refine ⟨o, rfl, rfl, ?_, (B.setCell (p := ⟨Y, 0, none⟩) hYw _).setCell (p := ⟨Y, 1, none⟩) hYw _⟩
  exact ho.keep fun k hk => (Below.heap_setCell _ ⟨Y, 1, none⟩ _ k (hY k hk)).trans (Below.heap_setCell _ ⟨Y, 0, none⟩ _ k (hY k hk))
theorem toObject_any (o : OV) (w : World) (hr : RdO w w.heap.size o) (hl : LimO o) :
    Calls Try.prog 17 #[.agg #[.slice o.A o.ps.length o.c, .slice o.Y o.ys.length o.yc]] w (RetO o.d w) := by
  obtain ⟨A, c, ps, YA, yc, ys⟩ := o
  obtain ⟨h1, h2, h3⟩ := hl
  simp only at h1 h2 h3 ⊢
  have HR := hide hr
  have HL := hide h3
  clear hr h3
  have HY := (Box.new (w.alloc (.cells #[.slice A ps.length c, .slice YA ys.length yc] 38)) 26 #[.slice none 0 0, .slice none 0 0]).alloc (.cells #[.slice none 0 0, .slice none 0 0] 26)
  have HZ := Box.new ((w.alloc (.cells #[.slice A ps.length c, .slice YA ys.length yc] 38)).alloc (.cells #[.slice none 0 0, .slice none 0 0] 26)) 26 #[.slice none 0 0, .slice none 0 0]
  have HV := ((Box.new w 38 #[.slice A ps.length c, .slice YA ys.length yc]).alloc (.cells #[.slice none 0 0, .slice none 0 0] 26)).alloc (.cells #[.slice none 0 0, .slice none 0 0] 26)
  have B0 : Below w.heap.size w (((w.alloc (.cells #[.slice A ps.length c, .slice YA ys.length yc] 38)).alloc (.cells #[.slice none 0 0, .slice none 0 0] 26)).alloc (.cells #[.slice none 0 0, .slice none 0 0] 26)) := (by repeat (first | exact Below.refl _ _ | with_reducible assumption | (refine Below.drew ?_) | (refine Below.drewN ?_ _) | (refine Below.alloc ?_ (by simp; try omega) _) | (refine Below.setCell ?_ (by simp; try omega) _)))
  simp only [World.size_alloc] at HY HZ
  have hYX : w.heap.size + 1 < w.heap.size + 1 + 1 := by omega
  have hVY : w.heap.size < w.heap.size + 1 := by omega
  have HB := hide B0
  clear B0
  go_enter Try.func17, Try.ntmps17
  go_wp2_with fail
  generalize (((w.alloc (.cells #[.slice A ps.length c, .slice YA ys.length yc] 38)).alloc (.cells #[.slice none 0 0, .slice none 0 0] 26)).alloc (.cells #[.slice none 0 0, .slice none 0 0] 26)) = w0 at *
  generalize w.heap.size + 1 + 1 = X at *
  generalize w.heap.size + 1 = Y at *
  refine (toSectionS_any A ps c w0 ((HR.out.1.below HB.out).more HB.out.size) h1 HL.out).mono ?_
  rintro e w1 ⟨A1, c1, qs, rfl, hqd, o1, b1⟩
  have HQD := hide hqd
  have HY1 := hide (HY.call b1)
  have HZ1 := hide (HZ.call b1)
  have HV1 := hide (HV.call b1)
  have HB1 := hide (HB.out.trans (b1.mono HB.out.size))
  have HO := hide o1
  have hX0 : X < w0.heap.size := HZ.lt
  have z0 := HZ1.out.cell 0
  have zf0 := HZ1.out.frozen 0
  have v1 := HV1.out.cell 1
  simp only [List.getElem?_toArray, List.getElem?_cons_zero, List.getElem?_cons_succ] at z0 v1
  clear HY HZ HV o1 b1 HB hqd
  have hne : w.heap.size ≠ X := by omega
  have hnY : Y ≠ X := by omega
  have hle : w.heap.size ≤ X := by omega
  go_wp2_with fail
  have HB2 := hide (HB1.out.setCell (p := ⟨X, 0, none⟩) hle (.slice A1 qs.length c1))
  have hk1 : ∀ k, ssblk A1 c1 qs k → k ≠ X := fun k hk => by have := (HO.out.lt k hk).1; omega
  have HO2 := hide (HO.out.keep (fun k hk => Below.heap_setCell w1 ⟨X, 0, none⟩ (.slice A1 qs.length c1) k (hk1 k hk)))
  have HY2 := hide (HY1.out.far (p := ⟨X, 0, none⟩) hnY (.slice A1 qs.length c1))
  have HZ2 := hide (show Box (w1.setCell ⟨X, 0, none⟩ (.slice A1 qs.length c1)) X 26 #[.slice A1 qs.length c1, .slice none 0 0] from HZ1.out.set 0 (.slice A1 qs.length c1))
  clear HB1 HO HY1 HZ1 HV1 z0 zf0 v1
  generalize w1.setCell ⟨X, 0, none⟩ (.slice A1 qs.length c1) = w2 at *
  refine (toSymbolS_any YA ys yc w2 ((HR.out.2.below HB2.out).more HB2.out.size) h2).mono ?_
  rintro e w3 ⟨Y1, yc1, rfl, o3, b3⟩
  have HB3 := hide (HB2.out.trans (b3.mono HB2.out.size))
  have HO3 := hide (HO2.out.call b3)
  have HF3 := hide (show Row w3 w2.heap.size 69 4 Y1 ys.length yc1 (cellsOf symbolC ys) from .inr o3)
  have HY3 := hide (HY2.out.call b3)
  have HZ3 := hide (HZ2.out.call b3)
  have hX2 : X < w2.heap.size := HZ2.out.lt
  have hZ3 := HZ3.out.lt
  have hY3 := HY3.out.lt
  have z0 := HZ3.out.cell 0
  have z1 := HZ3.out.cell 1
  have zf1 := HZ3.out.frozen 1
  have y0 := HY3.out.cell 0
  have y1 := HY3.out.cell 1
  have yf0 := HY3.out.frozen 0
  have yf1 := HY3.out.frozen 1
  simp only [List.getElem?_toArray, List.getElem?_cons_zero, List.getElem?_cons_succ] at z0 z1 y0 y1
  have hk3 : ∀ k, blk Y1 yc1 = some k → k ≠ X := fun k hk => by have := (HF3.out.lt k hk).1; omega
  have hkY : ∀ k, oblk ⟨A1, c1, qs, Y1, yc1, ys⟩ k → k ≠ Y := by
    rintro k (hk | hk)
    · have := (HO3.out.lt k hk).1; omega
    · have := (HF3.out.lt k hk).1; omega
  have HQ := hide (show OwnO (w3.setCell ⟨X, 1, none⟩ (.slice Y1 ys.length yc1)) w.heap.size ⟨A1, c1, qs, Y1, yc1, ys⟩ from ⟨(HO3.out.keep (fun k hk => Below.heap_setCell w3 ⟨X, 1, none⟩ (.slice Y1 ys.length yc1) k (hk1 k hk))).down (by omega), (HF3.out.set (a := ⟨X, 1, none⟩) hk3 _).down HB2.out.size⟩)
  have HB4 := hide (HB3.out.setCell (p := ⟨X, 1, none⟩) hle (.slice Y1 ys.length yc1))
  have HY4 := hide (HY3.out.far (p := ⟨X, 1, none⟩) hnY (.slice Y1 ys.length yc1))
  have HF := hide (ret_object HQ.out HB4.out hkY (Nat.le_of_lt hVY))
  have hod : OV.d ⟨A1, c1, qs, Y1, yc1, ys⟩ = OV.d ⟨A, c, ps, YA, yc, ys⟩ := by simp only [OV.d, HQD.out]
  rw [hod] at HF
  clear hk1 hk3 hkY b3 o3 HO3 HF3 HB2 HB3 HO2 HY2 HZ2 HY3 HZ3 hod
  have k := (HY4.out.set 0 (.slice A1 qs.length c1)).set 1 (.slice Y1 ys.length yc1)
  have k0 := k.cell 0
  have k1 := k.cell 1
  simp only [List.setIfInBounds_toArray, List.set_cons_zero, List.set_cons_succ, List.getElem?_toArray, List.getElem?_cons_zero, List.getElem?_cons_succ] at k0 k1
  clear k
  go_wp2_with fail
  exact bodyPost_ret (v := OV.v ⟨A1, c1, qs, Y1, yc1, ys⟩) (by simp [results, Try.results17, go_sem, OV.v, k0, k1]) rfl HF.out
theorem eqObject_same (o o' : OV) (w : World) (h : RdO w w.heap.size o) (h' : RdO w w.heap.size o') (hd : o.d = o'.d) (hl : LimO o) :
    Calls Try.prog 19 #[.agg #[.slice o.A o.ps.length o.c, .slice o.Y o.ys.length o.yc], .agg #[.slice o'.A o'.ps.length o'.c, .slice o'.Y o'.ys.length o'.yc]] w (Ret (.bool true) w) := by
  obtain ⟨A, c, ps, Y, yc, ys⟩ := o
  obtain ⟨A', c', ps', Y', yc', ys'⟩ := o'
  simp only [OV.d, OD.mk.injEq] at hd
  obtain ⟨hd, rfl⟩ := hd
  obtain ⟨h1, h2, h3⟩ := hl
  simp only at h1 h2 h3 ⊢
  have hm1 : ps.length ≤ maxLen := by unfold maxLen; omega
  have hm2 : ys.length ≤ maxLen := by unfold maxLen; omega
  have HL := hide (fun (p : SV) hp => (show p.zs.length ≤ maxLen ∧ p.fs.length ≤ maxLen from by have := h3 p hp; unfold Lim at this; unfold maxLen; omega))
  have HD := hide hd
  have HR := hide (And.intro h h')
  clear h3 h h' hd
  have B0 : Below w.heap.size w ((w.alloc (.cells #[.slice A ps.length c, .slice Y ys.length yc] 26)).alloc (.cells #[.slice A' ps'.length c', .slice Y' ys.length yc'] 26)) := (by repeat (first | exact Below.refl _ _ | with_reducible assumption | (refine Below.drew ?_) | (refine Below.drewN ?_ _) | (refine Below.alloc ?_ (by simp; try omega) _) | (refine Below.setCell ?_ (by simp; try omega) _)))
  have X0 := (Box.new w 26 #[.slice A ps.length c, .slice Y ys.length yc]).alloc (.cells #[.slice A' ps'.length c', .slice Y' ys.length yc'] 26)
  have Y0 := Box.new (w.alloc (.cells #[.slice A ps.length c, .slice Y ys.length yc] 26)) 26 #[.slice A' ps'.length c', .slice Y' ys.length yc']
  simp only [World.size_alloc] at Y0
  have HB := hide B0
  clear B0
  go_enter Try.func19, Try.ntmps19
  go_wp2_with fail
  generalize (w.alloc (.cells #[.slice A ps.length c, .slice Y ys.length yc] 26)).alloc (.cells #[.slice A' ps'.length c', .slice Y' ys.length yc'] 26) = w0 at *
  refine (eqSectionS_same A A' ps ps' c c' w0 ((HR.out.1.1.below HB.out).more HB.out.size) ((HR.out.2.1.below HB.out).more HB.out.size) HD.out hm1 HL.out).mono ?_
  rintro e w1 ⟨rfl, b1⟩
  have HB1 := hide (HB.out.trans (b1.mono HB.out.size))
  have X1 := X0.call b1
  have Y1 := Y0.call b1
  have x1 := X1.cell 1
  have y1 := Y1.cell 1
  simp only [List.getElem?_toArray, List.getElem?_cons_zero, List.getElem?_cons_succ] at x1 y1
  clear b1 X0 Y0 X1 Y1 HB
  go_wp2_with fail
  refine (eqSymbolS_same Y Y' ys yc yc' w1 ((HR.out.1.2.below HB1.out).more HB1.out.size) ((HR.out.2.2.below HB1.out).more HB1.out.size) hm2).mono ?_
  rintro e w2 ⟨rfl, b2⟩
  have HB2 := hide (HB1.out.trans (b2.mono HB1.out.size))
  clear b2
  go_wp2_with fail
  go_ret
  exact ⟨rfl, HB2.out⟩
theorem szSymbol_any (z : YD) (l : Int) (w : World) (hs : z.1.size ≤ maxLen) (h0 : 0 ≤ l) (h1 : l ≤ 1048576) :
    Calls Try.prog 118 #[.agg #[.string z.1, .int .i64 z.2.1, .int .i64 z.2.2.1, .int .i64 z.2.2.2], .int .i64 l] w (Ret (.int .i64 (szJ l z.1.size)) w) := by
  unfold maxLen at hs
  by_cases h : l - z.1.size < 0
  · rw [szJ_neg h]
    go_enter Try.func118, Try.ntmps118
    go_wp2
    go_ret
    exact ⟨rfl, (by repeat (first | exact Below.refl _ _ | with_reducible assumption | (refine Below.drew ?_) | (refine Below.drewN ?_ _) | (refine Below.alloc ?_ (by simp; try omega) _) | (refine Below.setCell ?_ (by simp; try omega) _)))⟩
  · rw [szJ_pos h]
    go_enter Try.func118, Try.ntmps118
    go_wp2
    go_ret
    exact ⟨rfl, (by repeat (first | exact Below.refl _ _ | with_reducible assumption | (refine Below.drew ?_) | (refine Below.drewN ?_ _) | (refine Below.alloc ?_ (by simp; try omega) _) | (refine Below.setCell ?_ (by simp; try omega) _)))⟩
theorem szSymbolS_any (A : Option Addr) (ys : List YD) (c : Nat) (left : Int) (w : World) (h0 : 0 ≤ left) (h1 : left ≤ 1048576) (hr : Rd w w.heap.size A (cellsOf symbolC ys)) (hn : ys.length ≤ maxLen) (hl : ∀ p ∈ ys, p.1.size ≤ maxLen) :
    Calls Try.prog 54 #[.slice A ys.length c, .int .i64 left] w fun e w' => (∃ r, e = .returned (.int .i64 r) ∧ (r = -1 ∨ 0 ≤ r ∧ r ≤ left ∧ r + ys.length + toty ys = left)) ∧ Below w.heap.size w w' := by
  have hn' := hn
  unfold maxLen at hn'
  by_cases hf : left - ys.length < 0
  · go_enter Try.func54, Try.ntmps54
    clear hr
    go_wp2
    go_ret
    exact ⟨⟨_, rfl, .inl rfl⟩, Below.refl _ _⟩
  · go_enter Try.func54, Try.ntmps54
    have HR := hide hr
    clear hr
    go_wp2
    go_loopw [1, 5] (fun l i wr => ∃ (k : Nat) (x : Int), k ≤ ys.length ∧ i = .int .i64 k ∧ l = .int .i64 x ∧ 0 ≤ x ∧ x + (ys.length + (toty ys - toty (ys.drop k))) = left ∧ Below w.heap.size w wr) (fun _ i _ => ys.length - (intOf i).toNat)
    case atStart => exact ⟨0, left - ys.length, Nat.zero_le _, rfl, by go_num, by omega, by rw [List.drop_zero]; omega, Below.refl _ _⟩
    case round =>
      obtain ⟨k, x, hk, rfl, rfl, hx0, hx1, hb⟩ := hrel
      have HB := hide hb
      have hx2 : x ≤ left := by
        have := toty_drop_le ys k
        omega
      by_cases hlt : k < ys.length
      · obtain ⟨b, off, rfl, _, hc⟩ := (HR.out.below hb).row symbolC_len (by decide) hlt
        have hc0 := hc 0 _ rfl
        have hc1 := hc 1 _ rfl
        have hc2 := hc 2 _ rfl
        have hc3 := hc 3 _ rfl
        simp only [Nat.add_zero] at hc0
        have HT := hide (toty_drop hlt)
        have HX := hide hx1
        have HM := hide (hl _ (List.getElem_mem hlt))
        clear hc hb hx1
        generalize ys[k] = p at *
        by_cases hs : x - p.1.size < 0
        · have HZ := hide (szJ_neg hs)
          go_wp2_with fail
          refine (szSymbol_any p x _ HM.out hx0 (by omega)).mono ?_
          rintro e w2 ⟨rfl, hb2⟩
          rw [HZ.out]
          have HB' := hide (HB.out.trans (hb2.mono HB.out.size))
          clear hb2
          go_wp2_with fail
          go_ret
          exact ⟨⟨_, rfl, .inl rfl⟩, HB'.out⟩
        · have HZ := hide (szJ_pos hs)
          go_wp2_with fail
          refine (szSymbol_any p x _ HM.out hx0 (by omega)).mono ?_
          rintro e w2 ⟨rfl, hb2⟩
          rw [HZ.out]
          have HB' := hide (HB.out.trans (hb2.mono HB.out.size))
          clear hb2
          go_wp2_with fail
          go_roundw
          case rel => exact ⟨k + 1, x - p.1.size, by omega, by go_num, rfl, by omega, (by have h1 := HT.out; have h2 := HX.out; omega), HB'.out⟩
          case measure => simp [intOf]; omega
      · have hE : 0 ≤ x ∧ x ≤ left ∧ x + ys.length + toty ys = left := by
          have e : k = ys.length := by omega
          subst e
          rw [List.drop_length] at hx1
          simp only [toty] at hx1
          omega
        have HE := hide hE
        clear hE hx1 hb
        go_wp2_with fail
        go_ret
        exact ⟨⟨_, rfl, .inr HE.out⟩, HB.out⟩
end Go.Proofs.Ytmglgjchemecjaa.CObject
