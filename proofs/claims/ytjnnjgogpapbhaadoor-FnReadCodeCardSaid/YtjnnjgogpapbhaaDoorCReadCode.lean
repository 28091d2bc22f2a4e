/- The program's and the reference's ReadCode. -/
import Derived.Test.YtjnnjgogpapbhaaDoorCCodeTxt
import Derived.Test.YtjnnjgogpapbhaaDoorPRead
namespace Go.Proofs.YtjnnjgogpapbhaaDoor.CReadCode
set_option maxRecDepth 200000
open Go.ChangeShapes Go.WideShapes Go.ChangeAt Go.RowKit Kit CCode CNumTxt BWords CCodeTxt PRead
/-- A sentinel as the library lays it. -/
structure Err (n : String) (g : Nat) (w : World) : Prop where
  pos : g < w.heap.size
  var : ∃ tp p, w.var? Tryd.prog n = some #[.iface tp p]
theorem Err.below {n : String} {g : Nat} {w w' : World} (h : Err n g w) (hg : Tryd.prog.globalNamed n = some g) (hb : Below w.heap.size w w') : Err n g w' := by
  refine ⟨Nat.lt_of_lt_of_le h.pos hb.size, ?_⟩
  obtain ⟨tp, p, hv⟩ := h.var
  refine ⟨tp, p, ?_⟩
  unfold World.var? at hv ⊢
  rw [hg] at hv ⊢
  simp only [Option.bind_some] at hv ⊢
  rw [hb.block g h.pos]
  exact hv
abbrev ER (w : World) : Prop := Err "strconv.ErrRange" 2 w
abbrev ES (w : World) : Prop := Err "strconv.ErrSyntax" 1 w
theorem ER.below {w w' : World} (h : ER w) (hb : Below w.heap.size w w') : ER w' := Err.below h (by kernel_rfl) hb
theorem ES.below {w w' : World} (h : ES w) (hb : Below w.heap.size w w') : ES w' := Err.below h (by kernel_rfl) hb
theorem atoi_any (s : ByteArray) (hs : s.size ≤ 281474976710656) (w : World) (hR : ER w) (hS : ES w) :
    Calls Tryd.prog 44 #[.string s] w fun e w' => ∃ v, e = .returned (.tuple #[.int .i64 (atN s.data.toList), v]) ∧ Below w.heap.size w w' := by
  cases ha : Lib.atoiAll s.data.toList with
  | ok v =>
    refine (Shelf.strconv_Atoi_ok s (by omega) v ha w).mono ?_
    rintro e w' ⟨rfl, h⟩
    refine ⟨_, by rw [atN, ha], ?_⟩
    rcases h with rfl | ⟨t, rfl⟩
    · exact Below.refl _ _
    · exact Lib.bytesWorld_below _ _ _
  | range =>
    obtain ⟨tp, p, hv⟩ := hR.var
    refine (Shelf.strconv_Atoi_range_var s hs ha tp p w hv).mono ?_
    rintro e w' ⟨N, rfl, _, _, hb⟩
    exact ⟨_, by rw [atN, ha], hb⟩
  | _ =>
    obtain ⟨tp, p, hv⟩ := hS.var
    refine (Shelf.strconv_Atoi_syntax_var s hs (ha.trans rfl) tp p w hv).mono ?_
    rintro e w' ⟨N, rfl, _, _, hb⟩
    exact ⟨_, by rw [atN, ha], hb⟩
/-- The result's variable. -/
def RB (w : World) (Y : Nat) (d b : Int) : Prop := Box w Y 25 #[.int .i64 d, .int .i64 b]
theorem word_at (s : ByteArray) (n : Nat) (h : n ≤ s.size) : (s.extract n s.size).data.toList = s.data.toList.drop n := by
  obtain ⟨x⟩ := s
  show (ByteArray.extract ⟨x⟩ n x.size).data.toList = x.toList.drop n
  simp [ByteArray.data_extract, List.take_of_length_le]
theorem index_at (cs : Array Value) (k : Nat) (s : ByteArray) (hk : k < 8) (h : cs[k]? = some (.string s)) (V : World) : (Instr.index 55 (.agg cs) (.int .i64 k)).run Tryd.prog V = .ok (.string s) V := by
  have hn : 0 ≤ (k : Int) ∧ (k : Int) < 8 := by omega
  have h8 : (k : Int) < ((8 : Nat) : Int) := by omega
  simp [Instr.index, run_underlying Tryd.underlying55, asIntOf, hk, h, go_sem, part, Tryd.sizeOf9, Tryd.isAgg9]
theorem readCode_any (s : ByteArray) (hs : s.size ≤ 2000000) (w : World) (hL : LW w) (hT : Tab w) (hR : ER w) (hS : ES w) :
    Calls Tryd.prog 21 #[.string s] w fun e w' => ReadE s.data.toList e ∧ Below w.heap.size w w' := by
  have B0 : Below w.heap.size w (w.alloc (.cells #[.int .i64 0, .int .i64 0] 25)) := (by repeat (first | exact Below.refl _ _ | with_reducible assumption | (refine Below.drew ?_) | (refine Below.drewN ?_ _) | (refine Below.alloc ?_ (by simp; try omega) _) | (refine Below.setCell ?_ (by simp; try omega) _)))
  have Y0 := Box.new w 25 #[.int .i64 0, .int .i64 0]
  have HB0 := hide B0
  have c0 := (hL.below B0).word 0 (by decide)
  have c1 := (hL.below B0).word 1 (by decide)
  have c2 := (hL.below B0).word 2 (by decide)
  have c3 := (hL.below B0).word 3 (by decide)
  have c4 := (hL.below B0).word 4 (by decide)
  have c5 := (hL.below B0).word 5 (by decide)
  have c6 := (hL.below B0).word 6 (by decide)
  have c7 := (hL.below B0).word 7 (by decide)
  have HL := hide hL
  have HT := hide hT
  have HR := hide hR
  have HS := hide hS
  have HY0 := hide Y0
  clear hL hT hR hS B0 Y0
  go_enter Tryd.func21, Tryd.ntmps21
  go_wp2_with fail
  clear c0 c1 c2 c3 c4 c5 c6 c7
  obtain ⟨LA, hLA⟩ : ∃ LA : Array Value, LA = #[.string (word 0), .string (word 1), .string (word 2), .string (word 3), .string (word 4), .string (word 5), .string (word 6), .string (word 7)] := ⟨_, rfl⟩
  rw [← hLA]
  have HA : Hid (∀ k, k < 8 → LA[k]? = some (.string (word k))) := hide (by
    subst hLA
    intro k hk
    match k, hk with
    | 0, _ | 1, _ | 2, _ | 3, _ | 4, _ | 5, _ | 6, _ | 7, _ => rfl)
  have hsz : LA.size = 8 := by rw [hLA]; rfl
  clear hLA
  go_loopw [8] (fun i wr => ∃ k : Nat, k ≤ 8 ∧ i = .int .i64 k ∧ (∀ j, j < k → ∀ b, ¬ Is s.data.toList j b) ∧ Box wr w.heap.size 25 #[.int .i64 0, .int .i64 0] ∧ Below w.heap.size w wr) (fun i _ => 8 - (intOf i).toNat)
  case atStart => exact ⟨0, Nat.zero_le _, rfl, fun j hj => absurd hj (Nat.not_lt_zero j), HY0.out, HB0.out⟩
  case round =>
    obtain ⟨k, hk, rfl, hno, hy, hb⟩ := hrel
    have HN := hide hno
    have HY := hide hy
    have HB := hide hb
    have y0 := hy.cell 0
    have y1 := hy.cell 1
    have f0 := hy.frozen 0
    have f1 := hy.frozen 1
    simp only [List.getElem?_toArray, List.getElem?_cons_zero, List.getElem?_cons_succ] at y0 y1
    have hlt := hy.lt
    clear hno hy hb HY0 HB0
    by_cases hk8 : k < 8
    · have hLk := HA.out k hk8
      have hkI : (k : Int) < 8 := by omega
      have hW6 := word_size k
      have HWE := hide (show word k = ⟨(wordL k).toArray⟩ from rfl)
      generalize word k = W at *
      have hix := index_at LA k W hk8 hLk wr
      go_wp2_with fail
      refine (hasArg_any _ _).mono ?_
      rintro e w' ⟨rfl, rfl⟩
      clear hix hLk
      have X1 := Box.new wr 25 #[.int .i64 k, .int .i64 0]
      have B1 : Below wr.heap.size wr (wr.alloc (.cells #[.int .i64 k, .int .i64 0] 25)) := (by repeat (first | exact Below.refl _ _ | with_reducible assumption | (refine Below.drew ?_) | (refine Below.drewN ?_ _) | (refine Below.alloc ?_ (by simp; try omega) _) | (refine Below.setCell ?_ (by simp; try omega) _)))
      have HY1 := hide (HY.out.call B1)
      have HB1 := hide (HB.out.trans (B1.mono HB.out.size))
      have hX : w.heap.size < wr.heap.size := hlt
      generalize wr.heap.size = X at *
      generalize wr.alloc (.cells #[.int .i64 k, .int .i64 0] 25) = w1 at *
      clear HY HB B1 y0 y1 f0 f1
      have hWl : W.size = (wordL k).length := by rw [HWE.out]; rfl
      have hsl : s.data.toList.length = s.size := by rw [Array.length_toList]; rfl
      have hc : (hasArgB k = false) ∨ (hasArgB k = true ∧ s.size ≤ W.size) ∨ (hasArgB k = true ∧ W.size < s.size) := by
        cases hasArgB k
        · exact .inl rfl
        · by_cases h : W.size < s.size
          · exact .inr (.inr ⟨rfl, h⟩)
          · exact .inr (.inl ⟨rfl, by omega⟩)
      have x0 := X1.cell 0
      have x1 := X1.cell 1
      have xf := X1.frozen 1
      have hXl := X1.lt
      have hk1 : ∀ j, j < k + 1 → (∀ b, ¬ Is s.data.toList k b) → ∀ b, ¬ Is s.data.toList j b := by
        intro j hj h
        rcases Nat.lt_or_ge j k with h' | h'
        · exact HN.out j h'
        · obtain rfl : j = k := by omega
          exact h
      have HK := hide hk1
      clear hk1
      simp only [List.getElem?_toArray, List.getElem?_cons_zero, List.getElem?_cons_succ] at x0 x1
      rcases hc with ha | ⟨ha, hlen⟩ | ⟨ha, hlen⟩
      · have HNI := hide (show numI s.data.toList k = 0 by rw [numI, if_neg (fun h => by rw [ha] at h; exact absurd h.1 (by decide))])
        rw [ha]
        generalize hq : (0 : Int) = q at X1 x1 HNI
        have HXQ := hide X1
        have HB5 := hide HB1.out
        have HY5 := hide HY1.out
        clear hsl hWl HR HS ha xf X1 HB1 HY1 hq
        cases hemp : s.toList.isEmpty
        · go_wp2_with fail
          refine (codeText_any k q _ (HL.out.below HB5.out) (HT.out.below HB5.out)).mono ?_
          rintro e w6 ⟨rfl, b6⟩
          have X6 := HXQ.out.call b6
          have Y6 := HY5.out.call b6
          have HB6 := hide (HB5.out.trans (b6.mono HB5.out.size))
          clear b6 HB5 HY5 HXQ x0 x1
          have x0 := X6.cell 0
          have x1 := X6.cell 1
          have y0 := Y6.cell 0
          have y1 := Y6.cell 1
          have f0 := Y6.frozen 0
          have f1 := Y6.frozen 1
          simp only [List.getElem?_toArray, List.getElem?_cons_zero, List.getElem?_cons_succ] at x0 x1 y0 y1
          have hY6 := Y6.lt
          have hne : s.data.toList ≠ [] := by
            intro h
            rw [ByteArray.toList_eq, h] at hemp
            cases hemp
          by_cases hcl : codeL k q = s.data.toList
          · have HI := hide (testI (d := k) (by omega) hne (by rw [HNI.out]; exact hcl))
            rw [HNI.out] at HI
            have hse : (⟨(codeL k q).toArray⟩ : ByteArray) = s := by rw [hcl]
            rw [hse]
            clear hcl hse hne HNI HK HN
            have HY6 := hide Y6
            clear X6 Y6
            go_wp2_with fail
            refine bodyPost_ret (v := .tuple #[.agg #[.int .i64 k, .int .i64 q], .bool true]) (by simp [results, Tryd.results21, go_sem, y0, y1, hY6]) rfl ⟨.inl ⟨k, q, rfl, HI.out⟩, ?_⟩
            exact (HB6.out.setCell (Nat.le_refl _) _).setCell (Nat.le_refl _) _
          · have hF : (codeL k q == s.toList) = false := by
              rw [ByteArray.toList_eq, beq_eq_false_iff_ne]
              exact hcl
            have HN' := hide (fun j hj => HK.out j hj (testI_no (.inr (by rw [HNI.out]; exact hcl))))
            have HY6 := hide Y6
            clear hcl HNI hne X6 Y6 HK HN x0 x1 y0 y1 f0 f1
            generalize codeL k q = cl at *
            go_wp2_with fail
            refine ⟨⟨k + 1, by omega, by go_num, HN'.out, HY6.out, HB6.out⟩, by simp [intOf]; omega⟩
        · have HN' := hide (fun j hj => HK.out j hj (testI_no (.inl (by
            rw [ByteArray.toList_eq] at hemp
            exact List.isEmpty_iff.1 hemp))))
          go_wp2_with fail
          refine ⟨⟨k + 1, by omega, by go_num, HN'.out, HY5.out, HB5.out⟩, by simp [intOf]; omega⟩
      · have HNI := hide (show numI s.data.toList k = 0 by rw [numI, if_neg (fun h => by have := h.2; omega)])
        rw [ha]
        have hd : decide ((W.size : Int) < s.size) = false := decide_eq_false (by omega)
        generalize hq : (0 : Int) = q at X1 x1 HNI
        have HXQ := hide X1
        have HB5 := hide HB1.out
        have HY5 := hide HY1.out
        clear hsl hWl HR HS ha xf X1 HB1 HY1 hq
        cases hemp : s.toList.isEmpty
        · go_wp2_with fail
          refine (codeText_any k q _ (HL.out.below HB5.out) (HT.out.below HB5.out)).mono ?_
          rintro e w6 ⟨rfl, b6⟩
          have X6 := HXQ.out.call b6
          have Y6 := HY5.out.call b6
          have HB6 := hide (HB5.out.trans (b6.mono HB5.out.size))
          clear b6 HB5 HY5 HXQ x0 x1
          have x0 := X6.cell 0
          have x1 := X6.cell 1
          have y0 := Y6.cell 0
          have y1 := Y6.cell 1
          have f0 := Y6.frozen 0
          have f1 := Y6.frozen 1
          simp only [List.getElem?_toArray, List.getElem?_cons_zero, List.getElem?_cons_succ] at x0 x1 y0 y1
          have hY6 := Y6.lt
          have hne : s.data.toList ≠ [] := by
            intro h
            rw [ByteArray.toList_eq, h] at hemp
            cases hemp
          by_cases hcl : codeL k q = s.data.toList
          · have HI := hide (testI (d := k) (by omega) hne (by rw [HNI.out]; exact hcl))
            rw [HNI.out] at HI
            have hse : (⟨(codeL k q).toArray⟩ : ByteArray) = s := by rw [hcl]
            rw [hse]
            clear hcl hse hne HNI HK HN
            have HY6 := hide Y6
            clear X6 Y6
            go_wp2_with fail
            refine bodyPost_ret (v := .tuple #[.agg #[.int .i64 k, .int .i64 q], .bool true]) (by simp [results, Tryd.results21, go_sem, y0, y1, hY6]) rfl ⟨.inl ⟨k, q, rfl, HI.out⟩, ?_⟩
            exact (HB6.out.setCell (Nat.le_refl _) _).setCell (Nat.le_refl _) _
          · have hF : (codeL k q == s.toList) = false := by
              rw [ByteArray.toList_eq, beq_eq_false_iff_ne]
              exact hcl
            have HN' := hide (fun j hj => HK.out j hj (testI_no (.inr (by rw [HNI.out]; exact hcl))))
            have HY6 := hide Y6
            clear hcl HNI hne X6 Y6 HK HN x0 x1 y0 y1 f0 f1
            generalize codeL k q = cl at *
            go_wp2_with fail
            refine ⟨⟨k + 1, by omega, by go_num, HN'.out, HY6.out, HB6.out⟩, by simp [intOf]; omega⟩
        · have HN' := hide (fun j hj => HK.out j hj (testI_no (.inl (by
            rw [ByteArray.toList_eq] at hemp
            exact List.isEmpty_iff.1 hemp))))
          go_wp2_with fail
          refine ⟨⟨k + 1, by omega, by go_num, HN'.out, HY5.out, HB5.out⟩, by simp [intOf]; omega⟩
      · have HNI := hide (show numI s.data.toList k = atN (s.data.toList.drop (W.size + 1)) by rw [numI, if_pos ⟨ha, by omega⟩, hWl])
        have hwat := word_at s (W.size + 1) (by omega)
        have hes : (s.extract (W.size + 1) s.size).size ≤ 281474976710656 := by rw [ByteArray.size_extract]; omega
        rw [ha]
        have HW := hide (And.intro hwat hes)
        clear hwat hes hsl hWl ha xf x0 x1
        have HX1 := hide X1
        clear X1
        go_wp2_with fail
        refine (atoi_any _ HW.out.2 w1 (HR.out.below HB1.out) (HS.out.below HB1.out)).mono ?_
        rintro e w2 ⟨v, rfl, b2⟩
        rw [HW.out.1, ← HNI.out]
        have X2 := HX1.out.call b2
        have HY2 := hide (HY1.out.call b2)
        have HB2 := hide (HB1.out.trans (b2.mono HB1.out.size))
        have x0 := X2.cell 0
        have x1 := X2.cell 1
        have xf := X2.frozen 1
        simp only [List.getElem?_toArray, List.getElem?_cons_zero, List.getElem?_cons_succ] at x0 x1
        clear HNI
        generalize hq : numI s.data.toList k = q
        have HNI := hide hq
        have HXQ : Hid (Box (w2.setCell ⟨X, 1, none⟩ (.int .i64 q)) X 25 #[.int .i64 k, .int .i64 q]) := hide (X2.set 1 (.int .i64 q))
        have HY5 := hide (HY2.out.far (p := ⟨X, 1, none⟩) (by show w.heap.size ≠ X; omega) (.int .i64 q))
        have HB5 := hide (HB2.out.setCell (p := ⟨X, 1, none⟩) (by show w.heap.size ≤ X; omega) (.int .i64 q))
        have hX2 := X2.lt
        clear b2 HX1 HY1 HB1 HW HY2 HB2 X2 hq
        cases hemp : s.toList.isEmpty
        · go_wp2_with fail
          refine (codeText_any k q _ (HL.out.below HB5.out) (HT.out.below HB5.out)).mono ?_
          rintro e w6 ⟨rfl, b6⟩
          have X6 := HXQ.out.call b6
          have Y6 := HY5.out.call b6
          have HB6 := hide (HB5.out.trans (b6.mono HB5.out.size))
          clear b6 HB5 HY5 HXQ x0 x1
          have x0 := X6.cell 0
          have x1 := X6.cell 1
          have y0 := Y6.cell 0
          have y1 := Y6.cell 1
          have f0 := Y6.frozen 0
          have f1 := Y6.frozen 1
          simp only [List.getElem?_toArray, List.getElem?_cons_zero, List.getElem?_cons_succ] at x0 x1 y0 y1
          have hY6 := Y6.lt
          have hne : s.data.toList ≠ [] := by
            intro h
            rw [ByteArray.toList_eq, h] at hemp
            cases hemp
          by_cases hcl : codeL k q = s.data.toList
          · have HI := hide (testI (d := k) (by omega) hne (by rw [HNI.out]; exact hcl))
            rw [HNI.out] at HI
            have hse : (⟨(codeL k q).toArray⟩ : ByteArray) = s := by rw [hcl]
            rw [hse]
            clear hcl hse hne HNI HK HN
            have HY6 := hide Y6
            clear X6 Y6
            go_wp2_with fail
            refine bodyPost_ret (v := .tuple #[.agg #[.int .i64 k, .int .i64 q], .bool true]) (by simp [results, Tryd.results21, go_sem, y0, y1, hY6]) rfl ⟨.inl ⟨k, q, rfl, HI.out⟩, ?_⟩
            exact (HB6.out.setCell (Nat.le_refl _) _).setCell (Nat.le_refl _) _
          · have hF : (codeL k q == s.toList) = false := by
              rw [ByteArray.toList_eq, beq_eq_false_iff_ne]
              exact hcl
            have HN' := hide (fun j hj => HK.out j hj (testI_no (.inr (by rw [HNI.out]; exact hcl))))
            have HY6 := hide Y6
            clear hcl HNI hne X6 Y6 HK HN x0 x1 y0 y1 f0 f1
            generalize codeL k q = cl at *
            go_wp2_with fail
            refine ⟨⟨k + 1, by omega, by go_num, HN'.out, HY6.out, HB6.out⟩, by simp [intOf]; omega⟩
        · have HN' := hide (fun j hj => HK.out j hj (testI_no (.inl (by
            rw [ByteArray.toList_eq] at hemp
            exact List.isEmpty_iff.1 hemp))))
          go_wp2_with fail
          refine ⟨⟨k + 1, by omega, by go_num, HN'.out, HY5.out, HB5.out⟩, by simp [intOf]; omega⟩
    · have HN' := hide (readE_none (l := s.data.toList) (fun j hj => HN.out j (by omega)))
      have hk8' : (k : Int) = 8 := by omega
      have hY := HY.out
      clear HN
      go_wp2_with fail
      refine bodyPost_ret (v := .tuple #[.agg #[.int .i64 0, .int .i64 0], .bool false]) (by simp [results, Tryd.results21, go_sem, y0, y1, hlt]) rfl ⟨.inr ⟨rfl, HN'.out⟩, ?_⟩
      exact (HB.out.setCell (Nat.le_refl _) _).setCell (Nat.le_refl _) _
end Go.Proofs.YtjnnjgogpapbhaaDoor.CReadCode
