/- The walk of FnPlaceText: texts of places begin with landmarks. -/
import Derived.Test.YtjnnjgogpapbhaaDoorCPlaceTxt
import Derived.Test.YtjnnjgogpapbhaaDoorDPlace
import Derived.Test.YtjnnjgogpapbhaaDoorCAlive
namespace Go.Proofs.YtjnnjgogpapbhaaDoor.WFnPlaceText
set_option maxRecDepth 200000
open Go.ChangeShapes Go.WideShapes Go.ChangeAt Go.RowKit Kit CCode CNumTxt BWords CLandmarks CLandmarkBefore CPlaceTxt DPick DVar DName DMarks DPlace CAlive
theorem small_all {zs : List D} (h : ∀ z ∈ zs, SmallM z) : zs.all (fun z => okP z.2) = true := by
  rw [List.all_eq_true]
  intro z hz
  obtain ⟨_, _, h0, h1⟩ := h z hz
  simp only [okP, inB, decide_eq_true_eq]
  omega
theorem place_out {zs : List D} {a : Int} (h : okP a = false) : placeB zs a = ⟨#[]⟩ := by rw [placeB, h]; rfl
theorem place_in {zs : List D} {a : Int} (hz : ∀ z ∈ zs, SmallM z) (h : okP a = true) : placeB zs a = textB a (bestL zs a) := by rw [placeB, h, small_all hz]; rfl
theorem itoa_pos (n : Int) : 0 < (Lib.itoa n).length := by
  unfold Lib.itoa
  split
  · simp
  · rw [Lib.decDigits_length]; exact Lib.nDigits_pos _
theorem text_pos {a : Int} {b : Option D} (hz : ∀ z, b = some z → SmallM z) : 0 < (textB a b).size := by
  cases b with
  | none => exact itoa_pos a
  | some z =>
    have h := (hz z rfl).1
    by_cases he : z.2 = a
    · rw [textB, if_pos he]; exact h
    · rw [textB, if_neg he, ByteArray.size_append, ByteArray.size_append]; omega
theorem pos_list {a : ByteArray} (h : 0 < a.size) : a.toList.isEmpty = false := by
  rw [ByteArray.toList_eq]
  obtain ⟨x⟩ := a
  show x.toList.isEmpty = false
  rw [List.isEmpty_eq_false_iff_exists_mem]
  exact ⟨x[0], by simp⟩
theorem pre_app (x y : ByteArray) : (x ++ y).extract 0 x.size = x := by
  rw [ByteArray.extract_append_eq_left rfl]
/-- What the text of a place with a landmark is. -/
theorem text_some {a : Int} {z : D} : ∃ t, textB a (some z) = z.1 ++ t ∧ (z.2 = a → textB a (some z) = z.1) := by
  by_cases he : z.2 = a
  · rw [textB, if_pos he]
    exact ⟨ByteArray.empty, by rw [ByteArray.append_empty], fun _ => rfl⟩
  · rw [textB, if_neg he]
    exact ⟨_, ByteArray.append_assoc, fun h => absurd h he⟩
theorem walk (A : Option Addr) (zs : List Int) (c : Nat) (hl : zs.length ≤ c) (hc : c ≤ maxLen) (hz : InR 0 255 zs) (w : World) (hr : Rd w w.heap.size A (ints .u8 zs)) (hT : Tab w) :
    Calls Tryd.prog 5 #[.slice A zs.length c] w (LawEnds w) := by
  have HT0 := hide hT
  clear hT
  have hcm := hc
  unfold maxLen at hcm
  have HD := hide (draw_any hr hz hl hc)
  clear hr hz hc
  by_cases hbig : 1048576 < zs.length
  · go_enter Tryd.func5, Tryd.ntmps5
    go_wp2_with fail
    go_ret
    exact ⟨rfl, Below.refl _ _⟩
  go_enter Tryd.func5, Tryd.ntmps5
  go_wp2_with fail
  refine HD.out.mono ?_
  rintro e w1 ⟨A1, ys, c1, a, rfl, l1, r1, a0, a1, o1, b1⟩
  have HB := hide b1
  have HO := hide o1
  have HY := hide r1
  have HT1 := hide (HT0.out.below b1)
  have hym : ys.length ≤ maxLen := by unfold maxLen; omega
  have HZ := hide (fun z hz => Nat.le_trans (r1 z hz).2.1 (by decide : 9 ≤ 1048576))
  clear b1 o1 r1 HD HT0
  go_wp2_with fail
  refine (placeText_any A1 ys c1 a w1 (Rd.of_own HO.out) hym HZ.out (by omega) (by omega) HT1.out).mono ?_
  rintro e w2 ⟨rfl, b2⟩
  have HO2 := hide (own_call b2 HO.out)
  have HB2 := hide (HB.out.trans (b2.mono HB.out.size))
  clear b2 HO HB HT1
  go_wp2_with fail
  refine (placeTextS_any A1 ys c1 a w2 (Rd.of_own HO2.out) hym HZ.out (by omega) (by omega)).mono ?_
  rintro e w3 ⟨rfl, b3⟩
  have HO3 := hide (own_call b3 HO2.out)
  have HB3 := hide (HB2.out.trans (b3.mono HB2.out.size))
  clear b3 HO2 HB2
  cases ha : okP a
  · rw [place_out ha]
    simp only [okP, inB, decide_eq_false_iff_not] at ha
    by_cases hlo : a < -99999
    · clear ha
      go_wp2_with fail
      refine (alive_any _).mono ?_
      rintro e w' ⟨rfl, rfl⟩
      go_wp2_with fail
      go_ret
      exact ⟨rfl, HB3.out⟩
    · have hhi : 99999 < a := by omega
      have hd : decide (a < -99999) = false := decide_eq_false hlo
      clear ha
      go_wp2_with fail
      refine (alive_any _).mono ?_
      rintro e w' ⟨rfl, rfl⟩
      go_wp2_with fail
      go_ret
      exact ⟨rfl, HB3.out⟩
  · rw [place_in HY.out ha]
    have HL := hide (landmarkBefore_any A1 ys c1 a w3 (Rd.of_own HO3.out) hym)
    have HM := hide (fun z (h : bestL ys a = some z) => HY.out z (bestL_mem h).1)
    have hpos := text_pos (a := a) HM.out
    cases hb : bestL ys a with
    | none =>
      rw [hb] at HL hpos
      simp only [res] at HL
      clear hb HM
      generalize textB a none = s at *
      have hne : s.toList.isEmpty = false := pos_list hpos
      clear hpos
      go_wp2_with fail
      refine HL.out.mono ?_
      rintro e w4 ⟨rfl, b4⟩
      have HB4 := hide (HB3.out.trans (b4.mono HB3.out.size))
      clear b4
      go_wp2_with fail
      go_quiet (fail)
      go_wp2_with fail
      go_ret
      exact ⟨rfl, Kit.Below.drewN (HB4.out.alloc HB4.out.size _) _⟩
    | some m =>
      have hm := HM.out m hb
      rw [hb] at HL hpos
      simp only [res] at HL
      clear hb HM
      obtain ⟨t, ht, hat⟩ := text_some (a := a) (z := m)
      have hsz : m.1.size ≤ (textB a (some m)).size := by rw [ht, ByteArray.size_append]; omega
      have hpre : (textB a (some m)).extract 0 m.1.size = m.1 := by rw [ht, pre_app]
      clear ht
      generalize textB a (some m) = s at *
      have hne : s.toList.isEmpty = false := pos_list hpos
      clear hpos
      go_wp2_with fail
      refine HL.out.mono ?_
      rintro e w4 ⟨rfl, b4⟩
      have HB4 := hide (HB3.out.trans (b4.mono HB3.out.size))
      clear b4
      go_wp2_with fail
      have HB5 := hide (HB4.out.alloc HB4.out.size (.cells #[.string m.1, .int .i64 m.2] 40))
      have X5 := Box.new w4 40 #[.string m.1, .int .i64 m.2]
      have q0 := X5.cell 0
      have q1 := X5.cell 1
      simp only [List.getElem?_toArray, List.getElem?_cons_zero, List.getElem?_cons_succ] at q0 q1
      have hbl := X5.lt
      generalize w4.alloc (.cells #[.string m.1, .int .i64 m.2] 40) = w5 at *
      clear X5 HB4
      by_cases hma : m.2 = a
      · have hs := hat hma
        subst hma hs
        clear hat hsz hpre
        go_quiet (fail)
        go_wp2_with fail
        go_ret
        exact ⟨rfl, Kit.Below.drewN HB5.out _⟩
      · have hd : (m.2 == a) = false := beq_eq_false_iff_ne.2 hma
        have hd2 : (m.2 != a) = true := bne_iff_ne.2 hma
        clear hat hma
        go_quiet (fail)
        go_wp2_with fail
        go_ret
        exact ⟨rfl, Kit.Below.drewN HB5.out _⟩
end Go.Proofs.YtjnnjgogpapbhaaDoor.WFnPlaceText
