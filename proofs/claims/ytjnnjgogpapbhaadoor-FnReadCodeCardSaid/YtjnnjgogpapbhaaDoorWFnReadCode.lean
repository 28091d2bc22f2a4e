/- The walk of FnReadCode: accepted texts are canonical. -/
import Derived.Test.YtjnnjgogpapbhaaDoorCReadCodeS
import Derived.Test.YtjnnjgogpapbhaaDoorWFnCodeText
import Derived.Test.YtjnnjgogpapbhaaDoorDName
namespace Go.Proofs.YtjnnjgogpapbhaaDoor.WFnReadCode
set_option maxRecDepth 200000
open Go.ChangeShapes Go.WideShapes Go.ChangeAt Go.RowKit Kit CCode CNumTxt BWords CCodeTxt PRead CReadCode CReadCodeS DPick DVar DCode DName CAlive WFnCodeText
theorem code_len' (a b : Int) : (codeL a b).length ≤ 12 := by
  cases h : codeOk a b
  · rw [codeL_bad h]; simp
  · exact code_len h
def Small (v : Value) : Prop := ∃ s : ByteArray, v = .string s ∧ s.size ≤ 20
theorem draw_any {A : Option Addr} {zs : List Int} {c : Nat} {w : World} (hr : Rd w w.heap.size A (ints .u8 zs)) (hz : InR 0 255 zs) (hc : zs.length ≤ c) (hcm : c ≤ maxLen) :
    Calls Tryd.prog 25 #[.slice A zs.length c] w (fun e w' => ∃ s : ByteArray, e = .returned (.string s) ∧ s.size ≤ 20 ∧ Below w.heap.size w w') := by
  have HO := hide (open_any A zs c w hr hz hc hcm)
  clear hr hz hc hcm
  go_enter Tryd.func25, Tryd.ntmps25
  go_wp2_with fail
  refine HO.out.mono ?_
  rintro e w1 ⟨R, rfl, T, b1⟩
  have T0 := Tp.start T
  have hRl := T.1
  have HB := hide b1
  clear T b1
  go_wp2_with fail
  refine (code_any T0 (by omega) _ (by omega) (by omega)).mono ?_
  rintro e w2 ⟨a, b, rfl, _, _, _, _, T2⟩
  go_wp2_with fail
  refine (codeTextS_any a b w2).mono ?_
  rintro e w3 ⟨rfl, b3⟩
  have T3 := T2.call b3
  have hlen := code_len' a b
  generalize codeL a b = l at *
  have hsz : (⟨l.toArray⟩ : ByteArray).size ≤ 12 := by show l.toArray.size ≤ _; simpa using hlen
  clear b3 T2 T0 HO hlen
  generalize (⟨l.toArray⟩ : ByteArray) = s at *
  go_wp2_with fail
  refine (odd_tp (by first | with_reducible assumption | exact Tp.alloc (by with_reducible assumption) _ | exact Tp.alloc (Tp.alloc (by with_reducible assumption) _) _ | exact Tp.drewN (by with_reducible assumption) _ | exact Tp.drew (by with_reducible assumption) | exact Tp.drawn (by with_reducible assumption) | exact Tp.alloc (Tp.drewN (by with_reducible assumption) _) _ | exact Tp.alloc (Tp.drew (by with_reducible assumption)) _ | exact Tp.alloc (Tp.alloc (Tp.alloc (by with_reducible assumption) _) _) _) (by omega) _ (by omega) (by omega)).mono ?_
  rintro e w4 ⟨bo, rfl, T4, g4⟩
  clear T3
  cases bo
  · go_wp2_with fail
    go_ret
    exact ⟨s, rfl, by omega, HB.out.trans (T4.below HB.out.size hRl)⟩
  · have hs1 : ¬ 9223372036854775807 < s.size + 1 := by omega
    have h1 : (s ++ (⟨#[48]⟩ : ByteArray)).size ≤ 20 := by rw [ByteArray.size_append]; show s.size + 1 ≤ 20; omega
    have h2 : (s ++ (⟨#[32]⟩ : ByteArray)).size ≤ 20 := by rw [ByteArray.size_append]; show s.size + 1 ≤ 20; omega
    go_wp2_with fail
    refine (pick_litP (p := Small) T4 (by omega) _ (by omega) (by omega) (by repeat (first | exact List.forall_mem_nil _ | refine List.forall_mem_cons.2 ⟨⟨_, rfl, by first | decide | assumption⟩, ?_⟩)) (by simp)).mono ?_
    rintro e w5 ⟨x, rfl, x0, x1, T5, g5, v, ⟨t, rfl, t1⟩, hv⟩
    clear g5 T4
    go_wp2_with fail
    go_ret
    exact ⟨t, rfl, t1, HB.out.trans (T5.below HB.out.size hRl)⟩
theorem walk (A : Option Addr) (zs : List Int) (c : Nat) (hl : zs.length ≤ c) (hc : c ≤ maxLen) (hz : InR 0 255 zs) (w : World) (hr : Rd w w.heap.size A (ints .u8 zs)) (hT : Tab w) (hR : ER w) (hS : ES w) (hL : LW w) :
    Calls Tryd.prog 8 #[.slice A zs.length c] w (LawEnds w) := by
  have HT := hide hT
  have HR := hide hR
  have HS := hide hS
  have HL := hide hL
  clear hT hR hS hL
  have hcm := hc
  unfold maxLen at hcm
  have HD := hide (draw_any hr hz hl hc)
  clear hr hz hc
  by_cases hbig : 1048576 < zs.length
  · go_enter Tryd.func8, Tryd.ntmps8
    go_wp2_with fail
    go_ret
    exact ⟨rfl, Below.refl _ _⟩
  go_enter Tryd.func8, Tryd.ntmps8
  go_wp2_with fail
  refine HD.out.mono ?_
  rintro e w1 ⟨s, rfl, hs, b1⟩
  have HB1 := hide b1
  clear b1 HD
  go_wp2_with fail
  refine (readCode_any s (by omega) w1 (HL.out.below HB1.out) (HT.out.below HB1.out) (HR.out.below HB1.out) (HS.out.below HB1.out)).mono ?_
  rintro e w2 ⟨h2, b2⟩
  have HB2 := hide (HB1.out.trans (b2.mono HB1.out.size))
  clear b2 HB1
  rcases h2 with ⟨d, b, rfl, hi⟩ | ⟨rfl, hn⟩
  · have HI := hide hi
    clear hi
    go_wp2_with fail
    have X3 := Box.new w2 25 #[.int .i64 d, .int .i64 b]
    have B3 : Below w2.heap.size w2 (w2.alloc (.cells #[.int .i64 d, .int .i64 b] 25)) := (by repeat (first | exact Below.refl _ _ | with_reducible assumption | (refine Below.drew ?_) | (refine Below.drewN ?_ _) | (refine Below.alloc ?_ (by simp; try omega) _) | (refine Below.setCell ?_ (by simp; try omega) _)))
    have HB3 := hide (HB2.out.trans (B3.mono HB2.out.size))
    generalize w2.heap.size = X at *
    generalize w2.alloc (.cells #[.int .i64 d, .int .i64 b] 25) = w3 at *
    clear HB2 B3
    refine (readCodeS_any s (by omega) w3).mono ?_
    rintro e w4 ⟨h4, b4⟩
    have X4 := X3.call b4
    have HB4 := hide (HB3.out.trans (b4.mono HB3.out.size))
    have x0 := X4.cell 0
    have x1 := X4.cell 1
    simp only [List.getElem?_toArray, List.getElem?_cons_zero, List.getElem?_cons_succ] at x0 x1
    have hX := X4.lt
    have HX4 := hide X4
    clear b4 HB3 X3 X4
    rcases h4 with ⟨d', b', rfl, hi'⟩ | ⟨rfl, hn'⟩
    · obtain ⟨rfl, rfl⟩ := is_unique HI.out hi'
      clear hi'
      have hs1 : ¬ 9223372036854775807 < s.size + 1 := by omega
      go_wp2_with fail
      have B5 : Below w4.heap.size w4 (w4.alloc (.cells #[.int .i64 d, .int .i64 b] 25)) := (by repeat (first | exact Below.refl _ _ | with_reducible assumption | (refine Below.drew ?_) | (refine Below.drewN ?_ _) | (refine Below.alloc ?_ (by simp; try omega) _) | (refine Below.setCell ?_ (by simp; try omega) _)))
      have HB5 := hide (HB4.out.trans (B5.mono HB4.out.size))
      have HX5 := hide (HX4.out.call B5)
      have hs2 : (s ++ (⟨#[32]⟩ : ByteArray)).size ≤ 2000000 := by rw [ByteArray.size_append]; show s.size + 1 ≤ _; omega
      have hsp : (s ++ (⟨#[32]⟩ : ByteArray)).data.toList = s.data.toList ++ [32] := by simp
      refine (readCode_any _ hs2 _ (HL.out.below HB5.out) (HT.out.below HB5.out) (HR.out.below HB5.out) (HS.out.below HB5.out)).mono ?_
      rintro e w6 ⟨h6, b6⟩
      rw [hsp] at h6
      clear hs2 hsp
      have X6 := HX5.out.call b6
      have HB6 := hide (HB5.out.trans (b6.mono HB5.out.size))
      clear x0 x1
      have x0 := X6.cell 0
      have x1 := X6.cell 1
      simp only [List.getElem?_toArray, List.getElem?_cons_zero, List.getElem?_cons_succ] at x0 x1
      clear b6 HB5 HX5 HX4 HB4 B5
      rcases h6 with ⟨d6, b6, rfl, hi6⟩ | ⟨rfl, hn6⟩
      · exact absurd hi6 is_no_space
      · clear hn6
        have hX6 := X6.lt
        have HX6 := hide X6
        clear X6
        go_wp2_with fail
        have B7 : Below w6.heap.size w6 (w6.alloc (.cells #[.int .i64 0, .int .i64 0] 25)) := (by repeat (first | exact Below.refl _ _ | with_reducible assumption | (refine Below.drew ?_) | (refine Below.drewN ?_ _) | (refine Below.alloc ?_ (by simp; try omega) _) | (refine Below.setCell ?_ (by simp; try omega) _)))
        have HB7 := hide (HB6.out.trans (B7.mono HB6.out.size))
        clear HB6 B7
        refine (codeText_any d b _ (HL.out.below HB7.out) (HT.out.below HB7.out)).mono ?_
        rintro e w8 ⟨rfl, b8⟩
        have HB8 := hide (HB7.out.trans (b8.mono HB7.out.size))
        have hse : (⟨(codeL d b).toArray⟩ : ByteArray) = s := by rw [HI.out.2]
        rw [hse]
        clear hse HI b8 HB7 x0 x1 HX6
        go_wp2_with fail
        go_ret
        exact ⟨rfl, HB8.out⟩
    · exact absurd HI.out (hn' _ _)
  · have HN := hide hn
    clear hn
    go_wp2_with fail
    have X3 := Box.new w2 25 #[.int .i64 0, .int .i64 0]
    have B3 : Below w2.heap.size w2 (w2.alloc (.cells #[.int .i64 0, .int .i64 0] 25)) := (by repeat (first | exact Below.refl _ _ | with_reducible assumption | (refine Below.drew ?_) | (refine Below.drewN ?_ _) | (refine Below.alloc ?_ (by simp; try omega) _) | (refine Below.setCell ?_ (by simp; try omega) _)))
    have HB3 := hide (HB2.out.trans (B3.mono HB2.out.size))
    generalize w2.heap.size = X at *
    generalize w2.alloc (.cells #[.int .i64 0, .int .i64 0] 25) = w3 at *
    clear HB2 B3
    refine (readCodeS_any s (by omega) w3).mono ?_
    rintro e w4 ⟨h4, b4⟩
    have X4 := X3.call b4
    have HB4 := hide (HB3.out.trans (b4.mono HB3.out.size))
    have x0 := X4.cell 0
    have x1 := X4.cell 1
    simp only [List.getElem?_toArray, List.getElem?_cons_zero, List.getElem?_cons_succ] at x0 x1
    have hX := X4.lt
    clear b4 HB3 X3 X4
    rcases h4 with ⟨d', b', rfl, hi'⟩ | ⟨rfl, hn'⟩
    · exact absurd hi' (HN.out _ _)
    · clear hn' HN
      go_wp2_with fail
      refine (alive_any _).mono ?_
      rintro e w' ⟨rfl, rfl⟩
      go_wp2_with fail
      go_ret
      exact ⟨rfl, HB4.out.alloc HB4.out.size _⟩
end Go.Proofs.YtjnnjgogpapbhaaDoor.WFnReadCode
