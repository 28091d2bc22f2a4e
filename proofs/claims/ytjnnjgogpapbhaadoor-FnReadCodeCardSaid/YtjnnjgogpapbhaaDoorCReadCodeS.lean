/- The reference's ReadCode. -/
import Derived.Test.YtjnnjgogpapbhaaDoorCReadCode
import Derived.BigQuiet
namespace Go.Proofs.YtjnnjgogpapbhaaDoor.CReadCodeS
set_option maxRecDepth 200000
open Go.ChangeShapes Go.WideShapes Go.ChangeAt Go.RowKit Kit CCode CNumTxt BWords CCodeTxt PRead CReadCode
theorem u8_lt (c : UInt8) : c.toNat < 256 := UInt8.toNat_lt c
theorem dfold_bd (l : List UInt8) (h : l.length ≤ 5) : -10000000 ≤ dfold 0 l ∧ dfold 0 l ≤ 30000000 := by
  match l, h with
  | [], _ => exact ⟨by decide, by decide⟩
  | [a], _ => have := u8_lt a; simp only [dfold]; omega
  | [a, b], _ => have := u8_lt a; have := u8_lt b; simp only [dfold]; omega
  | [a, b, c], _ => have := u8_lt a; have := u8_lt b; have := u8_lt c; simp only [dfold]; omega
  | [a, b, c, d], _ => have := u8_lt a; have := u8_lt b; have := u8_lt c; have := u8_lt d; simp only [dfold]; omega
  | [a, b, c, d, e], _ => have := u8_lt a; have := u8_lt b; have := u8_lt c; have := u8_lt d; have := u8_lt e; simp only [dfold]; omega
  | _ :: _ :: _ :: _ :: _ :: _ :: _, h => simp at h
theorem byte_at (s : ByteArray) (j : Nat) (h : j < s.size) : s.data.toList[j]? = some (s[j]'h) := by
  obtain ⟨x⟩ := s
  show x.toList[j]? = some x[j]
  rw [Array.getElem?_toList, Array.getElem?_eq_getElem h]
theorem dfold_next (s : ByteArray) (m j : Nat) (hm : m ≤ j) (h : j < s.size) : dfold 0 (((s.data.toList.drop m).take (j + 1 - m))) = 10 * dfold 0 ((s.data.toList.drop m).take (j - m)) + (s[j]'h).toNat - 48 := by
  have h1 : (s.data.toList.drop m)[j - m]? = some (s[j]'h) := by
    rw [List.getElem?_drop, show m + (j - m) = j by omega, byte_at s j h]
  obtain ⟨hlt, he⟩ := List.getElem?_eq_some_iff.1 h1
  rw [show j + 1 - m = (j - m) + 1 by omega, List.take_succ_eq_append_getElem hlt, dfold_snoc, he]
theorem take_pre (s : ByteArray) (n : Nat) : (s.extract 0 n).toList = s.data.toList.take n := by
  rw [ByteArray.toList_eq]
  obtain ⟨x⟩ := s
  show (ByteArray.extract ⟨x⟩ 0 n).data.toList = x.toList.take n
  simp [ByteArray.data_extract]
theorem readCodeS_any (s : ByteArray) (hs : s.size ≤ 2000000) (w : World) :
    Calls Tryd.prog 20 #[.string s] w fun e w' => ReadE s.data.toList e ∧ Below w.heap.size w w' := by
  have B0 : Below w.heap.size w (w.alloc (.cells #[.int .i64 0, .int .i64 0] 25)) := (by repeat (first | exact Below.refl _ _ | with_reducible assumption | (refine Below.drew ?_) | (refine Below.drewN ?_ _) | (refine Below.alloc ?_ (by simp; try omega) _) | (refine Below.setCell ?_ (by simp; try omega) _)))
  have Y0 := Box.new w 25 #[.int .i64 0, .int .i64 0]
  have HB0 := hide B0
  have HY0 := hide Y0
  clear B0 Y0
  go_enter Tryd.func20, Tryd.ntmps20
  go_wp2_with fail
  refine (l29Names_any _).mono ?_
  rintro e w1 ⟨g, rfl, hg, b1⟩
  have HYN := hide (HY0.out.call b1)
  have HBN := hide (HB0.out.trans (b1.mono HB0.out.size))
  have HG := hide (show (∀ d, d < 8 → w1.cell? ⟨g, d, none⟩ = some (.string (word d))) ∧ g < w1.heap.size ∧ w.heap.size ≠ g from ⟨hg, World.block_lt_of_cell? _ _ (hg 0 (by decide)), by
    intro e
    have h0 := hg 0 (by decide)
    have h1 := HYN.out.cell 0
    rw [← e, h1] at h0
    simp at h0⟩)
  clear b1 hg HB0 HY0
  go_wp2_with fail
  go_loopw [5] (fun i wr => ∃ k : Nat, k ≤ 8 ∧ i = .int .i64 k ∧ (∀ j, j < k → ∀ b, ¬ Is s.data.toList j b) ∧ Box wr w.heap.size 25 #[.int .i64 0, .int .i64 0] ∧ (∀ d, d < 8 → wr.cell? ⟨g, d, none⟩ = some (.string (word d))) ∧ g < wr.heap.size ∧ Below w.heap.size w wr) (fun i _ => 8 - (intOf i).toNat)
  case atStart => exact ⟨0, Nat.zero_le _, rfl, fun j hj => absurd hj (Nat.not_lt_zero j), HYN.out, HG.out.1, HG.out.2.1, HBN.out⟩
  case round =>
    obtain ⟨k, hk, rfl, hno, hy, hg, hgl, hb⟩ := hrel
    have HN := hide hno
    have HY := hide hy
    have HB := hide hb
    have HGG := hide (And.intro hg hgl)
    have y0 := hy.cell 0
    have y1 := hy.cell 1
    have f0 := hy.frozen 0
    have f1 := hy.frozen 1
    simp only [List.getElem?_toArray, List.getElem?_cons_zero, List.getElem?_cons_succ] at y0 y1
    have hlt := hy.lt
    clear hno hy hb HYN HBN hg
    by_cases hk8 : k < 8
    · have hkI : (k : Int) < 8 := by omega
      have hW6 := word_size k
      have HWE := hide (show word k = ⟨(wordL k).toArray⟩ from rfl)
      go_wp2_with fail
      have X1 := Box.new wr 25 #[.int .i64 k, .int .i64 0]
      have B1 : Below wr.heap.size wr (wr.alloc (.cells #[.int .i64 k, .int .i64 0] 25)) := (by repeat (first | exact Below.refl _ _ | with_reducible assumption | (refine Below.drew ?_) | (refine Below.drewN ?_ _) | (refine Below.alloc ?_ (by simp; try omega) _) | (refine Below.setCell ?_ (by simp; try omega) _)))
      have HY1 := hide (HY.out.call B1)
      have HB1 := hide (HB.out.trans (B1.mono HB.out.size))
      have HG1 := hide (show (∀ d, d < 8 → (wr.alloc (.cells #[.int .i64 k, .int .i64 0] 25)).cell? ⟨g, d, none⟩ = some (.string (word d))) ∧ g < wr.heap.size from ⟨fun d hd => (B1.cell (p := ⟨g, d, none⟩) hgl).trans (HGG.out.1 d hd), hgl⟩)
      have hX : w.heap.size < wr.heap.size := hlt
      generalize wr.heap.size = X at *
      generalize wr.alloc (.cells #[.int .i64 k, .int .i64 0] 25) = w1 at *
      clear HY HB B1 y0 y1 f0 f1 HGG
      have hgk := HG1.out.1 k hk8
      generalize word k = W at *
      have hWl : W.size = (wordL k).length := by rw [HWE.out]; rfl
      have hsl : s.data.toList.length = s.size := by rw [Array.length_toList]; rfl
      have x0 := X1.cell 0
      have x1 := X1.cell 1
      have xf := X1.frozen 1
      have hXl := X1.lt
      have hk1 : ∀ j, j < k + 1 → (∀ b, ¬ Is s.data.toList k b) → ∀ b, ¬ Is s.data.toList j b := by
        intro j hj h
        rcases Nat.lt_or_ge j k with h' | h'
        · exact HN.out j h'
        · obtain rfl : j = k := by omega
          exact h
      have HK := hide hk1
      clear hk1
      simp only [List.getElem?_toArray, List.getElem?_cons_zero, List.getElem?_cons_succ] at x0 x1
      have hWt : W.toList = wordL k := by rw [HWE.out, ByteArray.toList_eq]
      have hpre := take_pre s W.size
      have hc : (hasArgB k = false) ∨ (hasArgB k = true ∧ s.size ≤ W.size) ∨ (hasArgB k = true ∧ W.size < s.size ∧ W.size + 7 ≤ s.size) ∨ (hasArgB k = true ∧ W.size < s.size ∧ s.size < W.size + 7 ∧ ¬ (s.extract 0 W.size).toList = W.toList) ∨ (hasArgB k = true ∧ W.size < s.size ∧ s.size < W.size + 7 ∧ (s.extract 0 W.size).toList = W.toList) := by
        cases hasArgB k
        · exact .inl rfl
        · by_cases h : W.size < s.size
          · by_cases h2 : s.size < W.size + 7
            · by_cases h3 : (s.extract 0 W.size).toList = W.toList
              · exact .inr (.inr (.inr (.inr ⟨rfl, h, h2, h3⟩)))
              · exact .inr (.inr (.inr (.inl ⟨rfl, h, h2, h3⟩)))
            · exact .inr (.inr (.inl ⟨rfl, h, by omega⟩))
          · exact .inr (.inl ⟨rfl, by omega⟩)
      rcases hc with ha | ⟨ha, h1⟩ | ⟨ha, h1, h2⟩ | ⟨ha, h1, h2, h3⟩ | ⟨ha, h1, h2, h3⟩
      · have HNS := hide (show numS s.data.toList k = 0 by rw [numS, if_neg (fun h => by rw [ha] at h; exact absurd h.1 (by decide))])
        have HH := hide (fun V => l29Has_any (k : Int) V)
        rw [ha] at HH
        clear hWl hsl hWt hpre ha
        go_quiet ((go_at_call 27; exact Pure.quiet (HH.out _)))
        have X5 := X1.drewN nq
        have HXQ := hide X5
        have HY5 := hide (HY1.out.drewN nq)
        have HB5 := hide (Kit.Below.drewN HB1.out nq)
        have HG5 := hide (show ∀ d, d < 8 → (w1.drewN nq).cell? ⟨g, d, none⟩ = some (.string (word d)) from HG1.out.1)
        have hgX : g < X := hgl
        have hX5 : X < (w1.drewN nq).heap.size := hXl
        have hgk5 : (w1.drewN nq).cell? ⟨g, k, none⟩ = some (.string W) := hgk
        clear x0 x1 xf X1 HY1 HB1 HG1 hXl hgk HH
        have x0 := X5.cell 0
        have x1 := X5.cell 1
        have xf := X5.frozen 1
        simp only [List.getElem?_toArray, List.getElem?_cons_zero, List.getElem?_cons_succ] at x0 x1
        generalize w1.drewN nq = w5 at *
        have hgk := hgk5
        clear hgk5 X5
        generalize hq : (0 : Int) = q at x1 HXQ HNS
        clear hq xf
        go_wp2_with fail
        refine (codeValidS_any k q _).mono ?_
        rintro e w6 ⟨rfl, b6⟩
        have X6 := HXQ.out.call b6
        have HY6 := hide (HY5.out.call b6)
        have HG6 := hide (show (∀ d, d < 8 → w6.cell? ⟨g, d, none⟩ = some (.string (word d))) ∧ g < w6.heap.size from ⟨fun d hd => (b6.cell (p := ⟨g, d, none⟩) (Nat.lt_of_lt_of_le hgX (Nat.le_of_lt hX5))).trans (HG5.out d hd), Nat.lt_of_lt_of_le (Nat.lt_of_lt_of_le hgX (Nat.le_of_lt hX5)) b6.size⟩)
        have HB6 := hide (HB5.out.trans (b6.mono HB5.out.size))
        clear b6 HB5 HY5 HXQ x0 x1 HG5 hgk
        have x0 := X6.cell 0
        have x1 := X6.cell 1
        simp only [List.getElem?_toArray, List.getElem?_cons_zero, List.getElem?_cons_succ] at x0 x1
        have HX6 := hide X6
        clear X6
        cases hok : codeOk k q
        · have HN' := hide (fun j hj => HK.out j hj (testS_no (.inl (by rw [HNS.out]; exact hok))))
          clear hok HNS HK HN
          go_wp2_with fail
          refine ⟨⟨k + 1, by omega, by go_num, HN'.out, HY6.out, HG6.out.1, HG6.out.2, HB6.out⟩, by simp [intOf]; omega⟩
        · go_wp2_with fail
          refine (codeTextS_any k q _).mono ?_
          rintro e w7 ⟨rfl, b7⟩
          have X7 := HX6.out.call b7
          have Y7 := HY6.out.call b7
          have HG7 := hide (show (∀ d, d < 8 → w7.cell? ⟨g, d, none⟩ = some (.string (word d))) ∧ g < w7.heap.size from ⟨fun d hd => (b7.cell (p := ⟨g, d, none⟩) HG6.out.2).trans (HG6.out.1 d hd), Nat.lt_of_lt_of_le HG6.out.2 b7.size⟩)
          have HB7 := hide (HB6.out.trans (b7.mono HB6.out.size))
          clear b7 HB6 HY6 HX6 x0 x1 HG6
          have x0 := X7.cell 0
          have x1 := X7.cell 1
          have y0 := Y7.cell 0
          have y1 := Y7.cell 1
          have f0 := Y7.frozen 0
          have f1 := Y7.frozen 1
          simp only [List.getElem?_toArray, List.getElem?_cons_zero, List.getElem?_cons_succ] at x0 x1 y0 y1
          have hY7 := Y7.lt
          by_cases hcl : codeL k q = s.data.toList
          · have HI := hide (show Is s.data.toList k q from ⟨hok, hcl⟩)
            have hse : (⟨(codeL k q).toArray⟩ : ByteArray) = s := by rw [hcl]
            rw [hse]
            clear hcl hse HNS HK HN hok
            have HY7 := hide Y7
            clear X7 Y7
            go_wp2_with fail
            refine bodyPost_ret (v := .tuple #[.agg #[.int .i64 k, .int .i64 q], .bool true]) (by simp [results, Tryd.results20, go_sem, y0, y1, hY7]) rfl ⟨.inl ⟨k, q, rfl, HI.out⟩, ?_⟩
            exact (HB7.out.setCell (Nat.le_refl _) _).setCell (Nat.le_refl _) _
          · have hF : (codeL k q == s.toList) = false := by
              rw [ByteArray.toList_eq, beq_eq_false_iff_ne]
              exact hcl
            have HN' := hide (fun j hj => HK.out j hj (testS_no (.inr (by rw [HNS.out]; exact hcl))))
            have HY7 := hide Y7
            clear hcl HNS X7 Y7 HK HN x0 x1 y0 y1 f0 f1 hok
            generalize codeL k q = cl at *
            go_wp2_with fail
            refine ⟨⟨k + 1, by omega, by go_num, HN'.out, HY7.out, HG7.out.1, HG7.out.2, HB7.out⟩, by simp [intOf]; omega⟩
      · have HNS := hide (show numS s.data.toList k = 0 by rw [numS, if_neg (fun h => by have := h.2.1; omega)])
        have hd : decide (W.size < s.size) = false := decide_eq_false (by omega)
        have HH := hide (fun V => l29Has_any (k : Int) V)
        rw [ha] at HH
        clear hWl hsl hWt hpre ha
        go_quiet ((go_at_call 27; exact Pure.quiet (HH.out _)))
        have X5 := X1.drewN nq
        have HXQ := hide X5
        have HY5 := hide (HY1.out.drewN nq)
        have HB5 := hide (Kit.Below.drewN HB1.out nq)
        have HG5 := hide (show ∀ d, d < 8 → (w1.drewN nq).cell? ⟨g, d, none⟩ = some (.string (word d)) from HG1.out.1)
        have hgX : g < X := hgl
        have hX5 : X < (w1.drewN nq).heap.size := hXl
        have hgk5 : (w1.drewN nq).cell? ⟨g, k, none⟩ = some (.string W) := hgk
        clear x0 x1 xf X1 HY1 HB1 HG1 hXl hgk HH
        have x0 := X5.cell 0
        have x1 := X5.cell 1
        have xf := X5.frozen 1
        simp only [List.getElem?_toArray, List.getElem?_cons_zero, List.getElem?_cons_succ] at x0 x1
        generalize w1.drewN nq = w5 at *
        have hgk := hgk5
        clear hgk5 X5
        generalize hq : (0 : Int) = q at x1 HXQ HNS
        clear hq xf
        go_wp2_with fail
        refine (codeValidS_any k q _).mono ?_
        rintro e w6 ⟨rfl, b6⟩
        have X6 := HXQ.out.call b6
        have HY6 := hide (HY5.out.call b6)
        have HG6 := hide (show (∀ d, d < 8 → w6.cell? ⟨g, d, none⟩ = some (.string (word d))) ∧ g < w6.heap.size from ⟨fun d hd => (b6.cell (p := ⟨g, d, none⟩) (Nat.lt_of_lt_of_le hgX (Nat.le_of_lt hX5))).trans (HG5.out d hd), Nat.lt_of_lt_of_le (Nat.lt_of_lt_of_le hgX (Nat.le_of_lt hX5)) b6.size⟩)
        have HB6 := hide (HB5.out.trans (b6.mono HB5.out.size))
        clear b6 HB5 HY5 HXQ x0 x1 HG5 hgk
        have x0 := X6.cell 0
        have x1 := X6.cell 1
        simp only [List.getElem?_toArray, List.getElem?_cons_zero, List.getElem?_cons_succ] at x0 x1
        have HX6 := hide X6
        clear X6
        cases hok : codeOk k q
        · have HN' := hide (fun j hj => HK.out j hj (testS_no (.inl (by rw [HNS.out]; exact hok))))
          clear hok HNS HK HN
          go_wp2_with fail
          refine ⟨⟨k + 1, by omega, by go_num, HN'.out, HY6.out, HG6.out.1, HG6.out.2, HB6.out⟩, by simp [intOf]; omega⟩
        · go_wp2_with fail
          refine (codeTextS_any k q _).mono ?_
          rintro e w7 ⟨rfl, b7⟩
          have X7 := HX6.out.call b7
          have Y7 := HY6.out.call b7
          have HG7 := hide (show (∀ d, d < 8 → w7.cell? ⟨g, d, none⟩ = some (.string (word d))) ∧ g < w7.heap.size from ⟨fun d hd => (b7.cell (p := ⟨g, d, none⟩) HG6.out.2).trans (HG6.out.1 d hd), Nat.lt_of_lt_of_le HG6.out.2 b7.size⟩)
          have HB7 := hide (HB6.out.trans (b7.mono HB6.out.size))
          clear b7 HB6 HY6 HX6 x0 x1 HG6
          have x0 := X7.cell 0
          have x1 := X7.cell 1
          have y0 := Y7.cell 0
          have y1 := Y7.cell 1
          have f0 := Y7.frozen 0
          have f1 := Y7.frozen 1
          simp only [List.getElem?_toArray, List.getElem?_cons_zero, List.getElem?_cons_succ] at x0 x1 y0 y1
          have hY7 := Y7.lt
          by_cases hcl : codeL k q = s.data.toList
          · have HI := hide (show Is s.data.toList k q from ⟨hok, hcl⟩)
            have hse : (⟨(codeL k q).toArray⟩ : ByteArray) = s := by rw [hcl]
            rw [hse]
            clear hcl hse HNS HK HN hok
            have HY7 := hide Y7
            clear X7 Y7
            go_wp2_with fail
            refine bodyPost_ret (v := .tuple #[.agg #[.int .i64 k, .int .i64 q], .bool true]) (by simp [results, Tryd.results20, go_sem, y0, y1, hY7]) rfl ⟨.inl ⟨k, q, rfl, HI.out⟩, ?_⟩
            exact (HB7.out.setCell (Nat.le_refl _) _).setCell (Nat.le_refl _) _
          · have hF : (codeL k q == s.toList) = false := by
              rw [ByteArray.toList_eq, beq_eq_false_iff_ne]
              exact hcl
            have HN' := hide (fun j hj => HK.out j hj (testS_no (.inr (by rw [HNS.out]; exact hcl))))
            have HY7 := hide Y7
            clear hcl HNS X7 Y7 HK HN x0 x1 y0 y1 f0 f1 hok
            generalize codeL k q = cl at *
            go_wp2_with fail
            refine ⟨⟨k + 1, by omega, by go_num, HN'.out, HY7.out, HG7.out.1, HG7.out.2, HB7.out⟩, by simp [intOf]; omega⟩
      · have HNS := hide (show numS s.data.toList k = 0 by rw [numS, if_neg (fun h => by have := h.2.2.1; omega)])
        have hd : decide ((W.size : Int) < s.size) = true := decide_eq_true (by omega)
        have hd2 : decide ((s.size : Int) < W.size + 7) = false := decide_eq_false (by omega)
        have HH := hide (fun V => l29Has_any (k : Int) V)
        rw [ha] at HH
        clear hWl hsl hWt hpre ha
        go_quiet ((go_at_call 27; exact Pure.quiet (HH.out _)))
        have X5 := X1.drewN nq
        have HXQ := hide X5
        have HY5 := hide (HY1.out.drewN nq)
        have HB5 := hide (Kit.Below.drewN HB1.out nq)
        have HG5 := hide (show ∀ d, d < 8 → (w1.drewN nq).cell? ⟨g, d, none⟩ = some (.string (word d)) from HG1.out.1)
        have hgX : g < X := hgl
        have hX5 : X < (w1.drewN nq).heap.size := hXl
        have hgk5 : (w1.drewN nq).cell? ⟨g, k, none⟩ = some (.string W) := hgk
        clear x0 x1 xf X1 HY1 HB1 HG1 hXl hgk HH
        have x0 := X5.cell 0
        have x1 := X5.cell 1
        have xf := X5.frozen 1
        simp only [List.getElem?_toArray, List.getElem?_cons_zero, List.getElem?_cons_succ] at x0 x1
        generalize w1.drewN nq = w5 at *
        have hgk := hgk5
        clear hgk5 X5
        generalize hq : (0 : Int) = q at x1 HXQ HNS
        clear hq xf
        go_wp2_with fail
        refine (codeValidS_any k q _).mono ?_
        rintro e w6 ⟨rfl, b6⟩
        have X6 := HXQ.out.call b6
        have HY6 := hide (HY5.out.call b6)
        have HG6 := hide (show (∀ d, d < 8 → w6.cell? ⟨g, d, none⟩ = some (.string (word d))) ∧ g < w6.heap.size from ⟨fun d hd => (b6.cell (p := ⟨g, d, none⟩) (Nat.lt_of_lt_of_le hgX (Nat.le_of_lt hX5))).trans (HG5.out d hd), Nat.lt_of_lt_of_le (Nat.lt_of_lt_of_le hgX (Nat.le_of_lt hX5)) b6.size⟩)
        have HB6 := hide (HB5.out.trans (b6.mono HB5.out.size))
        clear b6 HB5 HY5 HXQ x0 x1 HG5 hgk
        have x0 := X6.cell 0
        have x1 := X6.cell 1
        simp only [List.getElem?_toArray, List.getElem?_cons_zero, List.getElem?_cons_succ] at x0 x1
        have HX6 := hide X6
        clear X6
        cases hok : codeOk k q
        · have HN' := hide (fun j hj => HK.out j hj (testS_no (.inl (by rw [HNS.out]; exact hok))))
          clear hok HNS HK HN
          go_wp2_with fail
          refine ⟨⟨k + 1, by omega, by go_num, HN'.out, HY6.out, HG6.out.1, HG6.out.2, HB6.out⟩, by simp [intOf]; omega⟩
        · go_wp2_with fail
          refine (codeTextS_any k q _).mono ?_
          rintro e w7 ⟨rfl, b7⟩
          have X7 := HX6.out.call b7
          have Y7 := HY6.out.call b7
          have HG7 := hide (show (∀ d, d < 8 → w7.cell? ⟨g, d, none⟩ = some (.string (word d))) ∧ g < w7.heap.size from ⟨fun d hd => (b7.cell (p := ⟨g, d, none⟩) HG6.out.2).trans (HG6.out.1 d hd), Nat.lt_of_lt_of_le HG6.out.2 b7.size⟩)
          have HB7 := hide (HB6.out.trans (b7.mono HB6.out.size))
          clear b7 HB6 HY6 HX6 x0 x1 HG6
          have x0 := X7.cell 0
          have x1 := X7.cell 1
          have y0 := Y7.cell 0
          have y1 := Y7.cell 1
          have f0 := Y7.frozen 0
          have f1 := Y7.frozen 1
          simp only [List.getElem?_toArray, List.getElem?_cons_zero, List.getElem?_cons_succ] at x0 x1 y0 y1
          have hY7 := Y7.lt
          by_cases hcl : codeL k q = s.data.toList
          · have HI := hide (show Is s.data.toList k q from ⟨hok, hcl⟩)
            have hse : (⟨(codeL k q).toArray⟩ : ByteArray) = s := by rw [hcl]
            rw [hse]
            clear hcl hse HNS HK HN hok
            have HY7 := hide Y7
            clear X7 Y7
            go_wp2_with fail
            refine bodyPost_ret (v := .tuple #[.agg #[.int .i64 k, .int .i64 q], .bool true]) (by simp [results, Tryd.results20, go_sem, y0, y1, hY7]) rfl ⟨.inl ⟨k, q, rfl, HI.out⟩, ?_⟩
            exact (HB7.out.setCell (Nat.le_refl _) _).setCell (Nat.le_refl _) _
          · have hF : (codeL k q == s.toList) = false := by
              rw [ByteArray.toList_eq, beq_eq_false_iff_ne]
              exact hcl
            have HN' := hide (fun j hj => HK.out j hj (testS_no (.inr (by rw [HNS.out]; exact hcl))))
            have HY7 := hide Y7
            clear hcl HNS X7 Y7 HK HN x0 x1 y0 y1 f0 f1 hok
            generalize codeL k q = cl at *
            go_wp2_with fail
            refine ⟨⟨k + 1, by omega, by go_num, HN'.out, HY7.out, HG7.out.1, HG7.out.2, HB7.out⟩, by simp [intOf]; omega⟩
      · have HNS := hide (show numS s.data.toList k = 0 by rw [numS, if_neg (fun h => by rw [← hWl, ← hpre, ← hWt] at h; exact h3 h.2.2.2)])
        have hd : decide ((W.size : Int) < s.size) = true := decide_eq_true (by omega)
        have hd2 : decide ((s.size : Int) < W.size + 7) = true := decide_eq_true (by omega)
        have hd3 : ((s.extract 0 W.size).toList == W.toList) = false := by rw [beq_eq_false_iff_ne]; exact h3
        have HH := hide (fun V => l29Has_any (k : Int) V)
        rw [ha] at HH
        clear h3
        clear hWl hsl hWt hpre ha
        go_quiet ((go_at_call 27; exact Pure.quiet (HH.out _)))
        have X5 := X1.drewN nq
        have HXQ := hide X5
        have HY5 := hide (HY1.out.drewN nq)
        have HB5 := hide (Kit.Below.drewN HB1.out nq)
        have HG5 := hide (show ∀ d, d < 8 → (w1.drewN nq).cell? ⟨g, d, none⟩ = some (.string (word d)) from HG1.out.1)
        have hgX : g < X := hgl
        have hX5 : X < (w1.drewN nq).heap.size := hXl
        have hgk5 : (w1.drewN nq).cell? ⟨g, k, none⟩ = some (.string W) := hgk
        clear x0 x1 xf X1 HY1 HB1 HG1 hXl hgk HH
        have x0 := X5.cell 0
        have x1 := X5.cell 1
        have xf := X5.frozen 1
        simp only [List.getElem?_toArray, List.getElem?_cons_zero, List.getElem?_cons_succ] at x0 x1
        generalize w1.drewN nq = w5 at *
        have hgk := hgk5
        clear hgk5 X5
        generalize hq : (0 : Int) = q at x1 HXQ HNS
        clear hq xf
        go_wp2_with fail
        refine (codeValidS_any k q _).mono ?_
        rintro e w6 ⟨rfl, b6⟩
        have X6 := HXQ.out.call b6
        have HY6 := hide (HY5.out.call b6)
        have HG6 := hide (show (∀ d, d < 8 → w6.cell? ⟨g, d, none⟩ = some (.string (word d))) ∧ g < w6.heap.size from ⟨fun d hd => (b6.cell (p := ⟨g, d, none⟩) (Nat.lt_of_lt_of_le hgX (Nat.le_of_lt hX5))).trans (HG5.out d hd), Nat.lt_of_lt_of_le (Nat.lt_of_lt_of_le hgX (Nat.le_of_lt hX5)) b6.size⟩)
        have HB6 := hide (HB5.out.trans (b6.mono HB5.out.size))
        clear b6 HB5 HY5 HXQ x0 x1 HG5 hgk
        have x0 := X6.cell 0
        have x1 := X6.cell 1
        simp only [List.getElem?_toArray, List.getElem?_cons_zero, List.getElem?_cons_succ] at x0 x1
        have HX6 := hide X6
        clear X6
        cases hok : codeOk k q
        · have HN' := hide (fun j hj => HK.out j hj (testS_no (.inl (by rw [HNS.out]; exact hok))))
          clear hok HNS HK HN
          go_wp2_with fail
          refine ⟨⟨k + 1, by omega, by go_num, HN'.out, HY6.out, HG6.out.1, HG6.out.2, HB6.out⟩, by simp [intOf]; omega⟩
        · go_wp2_with fail
          refine (codeTextS_any k q _).mono ?_
          rintro e w7 ⟨rfl, b7⟩
          have X7 := HX6.out.call b7
          have Y7 := HY6.out.call b7
          have HG7 := hide (show (∀ d, d < 8 → w7.cell? ⟨g, d, none⟩ = some (.string (word d))) ∧ g < w7.heap.size from ⟨fun d hd => (b7.cell (p := ⟨g, d, none⟩) HG6.out.2).trans (HG6.out.1 d hd), Nat.lt_of_lt_of_le HG6.out.2 b7.size⟩)
          have HB7 := hide (HB6.out.trans (b7.mono HB6.out.size))
          clear b7 HB6 HY6 HX6 x0 x1 HG6
          have x0 := X7.cell 0
          have x1 := X7.cell 1
          have y0 := Y7.cell 0
          have y1 := Y7.cell 1
          have f0 := Y7.frozen 0
          have f1 := Y7.frozen 1
          simp only [List.getElem?_toArray, List.getElem?_cons_zero, List.getElem?_cons_succ] at x0 x1 y0 y1
          have hY7 := Y7.lt
          by_cases hcl : codeL k q = s.data.toList
          · have HI := hide (show Is s.data.toList k q from ⟨hok, hcl⟩)
            have hse : (⟨(codeL k q).toArray⟩ : ByteArray) = s := by rw [hcl]
            rw [hse]
            clear hcl hse HNS HK HN hok
            have HY7 := hide Y7
            clear X7 Y7
            go_wp2_with fail
            refine bodyPost_ret (v := .tuple #[.agg #[.int .i64 k, .int .i64 q], .bool true]) (by simp [results, Tryd.results20, go_sem, y0, y1, hY7]) rfl ⟨.inl ⟨k, q, rfl, HI.out⟩, ?_⟩
            exact (HB7.out.setCell (Nat.le_refl _) _).setCell (Nat.le_refl _) _
          · have hF : (codeL k q == s.toList) = false := by
              rw [ByteArray.toList_eq, beq_eq_false_iff_ne]
              exact hcl
            have HN' := hide (fun j hj => HK.out j hj (testS_no (.inr (by rw [HNS.out]; exact hcl))))
            have HY7 := hide Y7
            clear hcl HNS X7 Y7 HK HN x0 x1 y0 y1 f0 f1 hok
            generalize codeL k q = cl at *
            go_wp2_with fail
            refine ⟨⟨k + 1, by omega, by go_num, HN'.out, HY7.out, HG7.out.1, HG7.out.2, HB7.out⟩, by simp [intOf]; omega⟩
      · have HNS := hide (show numS s.data.toList k = dfold 0 (s.data.toList.drop (W.size + 1)) by rw [numS, if_pos ⟨ha, by omega, by omega, by rw [← hWl, ← hpre, h3, hWt]⟩, hWl])
        have hd : decide ((W.size : Int) < s.size) = true := decide_eq_true (by omega)
        have hd2 : decide ((s.size : Int) < W.size + 7) = true := decide_eq_true (by omega)
        have hd3 : ((s.extract 0 W.size).toList == W.toList) = true := by rw [beq_iff_eq]; exact h3
        have HH := hide (fun V => l29Has_any (k : Int) V)
        rw [ha] at HH
        clear h3
        clear hWl hsl hWt hpre ha
        go_quiet ((go_at_call 27; exact Pure.quiet (HH.out _)))
        have X5 := X1.drewN nq
        have HXQ := hide X5
        have HY5 := hide (HY1.out.drewN nq)
        have HB5 := hide (Kit.Below.drewN HB1.out nq)
        have HG5 := hide (show ∀ d, d < 8 → (w1.drewN nq).cell? ⟨g, d, none⟩ = some (.string (word d)) from HG1.out.1)
        have hgX : g < X := hgl
        have hX5 : X < (w1.drewN nq).heap.size := hXl
        have hgk5 : (w1.drewN nq).cell? ⟨g, k, none⟩ = some (.string W) := hgk
        clear x0 x1 xf X1 HY1 HB1 HG1 hXl hgk HH
        have x0 := X5.cell 0
        have x1 := X5.cell 1
        have xf := X5.frozen 1
        simp only [List.getElem?_toArray, List.getElem?_cons_zero, List.getElem?_cons_succ] at x0 x1
        generalize w1.drewN nq = w5 at *
        have hgk := hgk5
        clear hgk5 X5
        clear xf
        go_wp2_with fail
        go_loopw [7] (fun j wi => ∃ n : Nat, W.size + 1 ≤ n ∧ n ≤ s.size ∧ j = .int .i64 n ∧ Box wi X 25 #[.int .i64 k, .int .i64 (dfold 0 ((s.data.toList.drop (W.size + 1)).take (n - (W.size + 1))))] ∧ Box wi w.heap.size 25 #[.int .i64 0, .int .i64 0] ∧ (∀ d, d < 8 → wi.cell? ⟨g, d, none⟩ = some (.string (word d))) ∧ wi.cell? ⟨g, k, none⟩ = some (.string W) ∧ Below w.heap.size w wi) (fun j _ => s.size - (intOf j).toNat)
        case atStart => exact ⟨W.size + 1, Nat.le_refl _, by omega, by go_num, by rw [Nat.sub_self]; exact HXQ.out, HY5.out, HG5.out, hgk, HB5.out⟩
        case round =>
          clear HXQ HY5 HB5 HG5 hX5 x0 x1 hgk
          obtain ⟨n, n0, n1, rfl, hx, hy, hg, hgk, hb⟩ := hrel
          have HXN := hide hx
          have HYN := hide hy
          have HGN := hide (And.intro hg hgk)
          have HBN := hide hb
          have x0 := hx.cell 0
          have x1 := hx.cell 1
          have xf := hx.frozen 1
          simp only [List.getElem?_toArray, List.getElem?_cons_zero, List.getElem?_cons_succ] at x0 x1
          have hXn := hx.lt
          clear hx hy hg hgk hb
          by_cases hlt : n < s.size
          · have hbd := dfold_bd ((s.data.toList.drop (W.size + 1)).take (n - (W.size + 1))) (by rw [List.length_take]; omega)
            have HX' := hide (dfold_next s (W.size + 1) n (by omega) hlt)
            generalize dfold 0 ((s.data.toList.drop (W.size + 1)).take (n - (W.size + 1))) = acc at *
            have hc8 := u8_lt (s[n]'hlt)
            have hw1 : IntKind.i64.wrap (10 * acc) = 10 * acc := IntWalk.i64_in _ (by omega)
            have hw2 : IntKind.i64.wrap (10 * acc + (s[n]'hlt).toNat) = 10 * acc + (s[n]'hlt).toNat := IntWalk.i64_in _ (by omega)
            have hw3 : IntKind.i64.wrap (10 * acc + (s[n]'hlt).toNat - 48) = 10 * acc + (s[n]'hlt).toNat - 48 := IntWalk.i64_in _ (by omega)
            have hw4 : IntKind.i64.wrap ((s[n]'hlt).toNat : Int) = (s[n]'hlt).toNat := IntWalk.i64_in _ (by omega)
            go_wp2_with fail
            refine Reg.startT (fun V => V.cell? ⟨X, 1, none⟩ = some (.int .i64 acc)) (fun j => j == 10) (by kernel_rfl) ?_
            have hHeld : wr.drew.cell? ⟨X, 1, none⟩ = some (.int .i64 acc) := x1
            refine Reg.takeT (i := 0) (v := ?_) rfl (by kernel_rfl) (by kernel_rfl) (by kernel_rfl) (by kernel_rfl) (fun _ _ _ h => h) (Or.inl ⟨by rfl, ?_⟩) (by assumption) ?_
            rotate_left 1
            focus (intro w hSw; (try dsimp only at hSw); go_simp; (try with_reducible rfl))
            try simp only [List.getElem_toArray, List.getElem_cons_succ, List.getElem_cons_zero, Act.put, List.setIfInBounds_toArray, List.set_cons_zero, List.set_cons_succ]
            refine Reg.takeT (i := 1) (v := ?_) rfl (by kernel_rfl) (by kernel_rfl) (by kernel_rfl) (by kernel_rfl) (fun _ _ _ h => h) (Or.inl ⟨by rfl, ?_⟩) (by assumption) ?_
            rotate_left 1
            focus (intro w hSw; (try dsimp only at hSw); go_simp; (try with_reducible rfl))
            try simp only [List.getElem_toArray, List.getElem_cons_succ, List.getElem_cons_zero, Act.put, List.setIfInBounds_toArray, List.set_cons_zero, List.set_cons_succ]
            refine Reg.takeT (i := 2) (v := ?_) rfl (by kernel_rfl) (by kernel_rfl) (by kernel_rfl) (by kernel_rfl) (fun _ _ _ h => h) (Or.inl ⟨by rfl, ?_⟩) (by assumption) ?_
            rotate_left 1
            focus (intro w hSw; (try dsimp only at hSw); go_simp; (try with_reducible rfl))
            try simp only [List.getElem_toArray, List.getElem_cons_succ, List.getElem_cons_zero, Act.put, List.setIfInBounds_toArray, List.set_cons_zero, List.set_cons_succ]
            refine Reg.takeT (i := 3) (v := ?_) rfl (by kernel_rfl) (by kernel_rfl) (by kernel_rfl) (by kernel_rfl) (fun _ _ _ h => h) (Or.inl ⟨by rfl, ?_⟩) (by assumption) ?_
            rotate_left 1
            focus (intro w hSw; (try dsimp only at hSw); go_simp; (try with_reducible rfl))
            try simp only [List.getElem_toArray, List.getElem_cons_succ, List.getElem_cons_zero, Act.put, List.setIfInBounds_toArray, List.set_cons_zero, List.set_cons_succ]
            refine Reg.takeT (i := 4) (v := ?_) rfl (by kernel_rfl) (by kernel_rfl) (by kernel_rfl) (by kernel_rfl) (fun _ _ _ h => h) (Or.inl ⟨by rfl, ?_⟩) (by assumption) ?_
            rotate_left 1
            focus (intro w hSw; (try dsimp only at hSw); go_simp; (try with_reducible rfl))
            try simp only [List.getElem_toArray, List.getElem_cons_succ, List.getElem_cons_zero, Act.put, List.setIfInBounds_toArray, List.set_cons_zero, List.set_cons_succ]
            refine Reg.takeT (i := 5) (v := ?_) rfl (by kernel_rfl) (by kernel_rfl) (by kernel_rfl) (by kernel_rfl) (fun _ _ _ h => h) (Or.inl ⟨by rfl, ?_⟩) (by assumption) ?_
            rotate_left 1
            focus (intro w hSw; (try dsimp only at hSw); go_simp; (try with_reducible rfl))
            try simp only [List.getElem_toArray, List.getElem_cons_succ, List.getElem_cons_zero, Act.put, List.setIfInBounds_toArray, List.set_cons_zero, List.set_cons_succ]
            refine Reg.takeT (i := 6) (v := ?_) rfl (by kernel_rfl) (by kernel_rfl) (by kernel_rfl) (by kernel_rfl) (fun _ _ _ h => h) (Or.inl ⟨by rfl, ?_⟩) (by assumption) ?_
            rotate_left 1
            focus (intro w hSw; (try dsimp only at hSw); go_simp; (try with_reducible rfl))
            try simp only [List.getElem_toArray, List.getElem_cons_succ, List.getElem_cons_zero, Act.put, List.setIfInBounds_toArray, List.set_cons_zero, List.set_cons_succ]
            refine Reg.takeT (i := 7) (v := ?_) rfl (by kernel_rfl) (by kernel_rfl) (by kernel_rfl) (by kernel_rfl) (fun _ _ _ h => h) (Or.inl ⟨by rfl, ?_⟩) (by assumption) ?_
            rotate_left 1
            focus (intro w hSw; (try dsimp only at hSw); go_simp; (try with_reducible rfl))
            try simp only [List.getElem_toArray, List.getElem_cons_succ, List.getElem_cons_zero, Act.put, List.setIfInBounds_toArray, List.set_cons_zero, List.set_cons_succ]
            refine Reg.takeT (i := 8) (v := ?_) rfl (by kernel_rfl) (by kernel_rfl) (by kernel_rfl) (by kernel_rfl) (fun _ _ _ h => h) (Or.inl ⟨by rfl, ?_⟩) (by assumption) ?_
            rotate_left 1
            focus (intro w hSw; (try dsimp only at hSw); go_simp; (try with_reducible rfl))
            try simp only [List.getElem_toArray, List.getElem_cons_succ, List.getElem_cons_zero, Act.put, List.setIfInBounds_toArray, List.set_cons_zero, List.set_cons_succ]
            refine Reg.takeT (i := 9) (v := ?_) rfl (by kernel_rfl) (by kernel_rfl) (by kernel_rfl) (by kernel_rfl) (fun _ _ _ h => h) (Or.inl ⟨by rfl, ?_⟩) (by assumption) ?_
            rotate_left 1
            focus (intro w hSw; (try dsimp only at hSw); go_simp; (try with_reducible rfl))
            try simp only [List.getElem_toArray, List.getElem_cons_succ, List.getElem_cons_zero, Act.put, List.setIfInBounds_toArray, List.set_cons_zero, List.set_cons_succ]
            refine Reg.lastT (i := 10) rfl (by kernel_rfl) (by rfl) (fun K hK => ?_)
            have xf' : wr.drew.frozen? ⟨X, 1, none⟩ = false := xf
            go_simp
            refine hK.out _ _ ?_
            clear hK K hHeld
            try simp only [List.getElem_toArray, List.getElem_cons_succ, List.getElem_cons_zero, Act.put, List.setIfInBounds_toArray, List.set_cons_zero, List.set_cons_succ]
            refine Reg.doneT (by kernel_rfl) ?_ _
            go_wp2_with fail
            go_roundw
            case rel =>
              refine ⟨n + 1, by omega, by omega, by go_num, ?_, HYN.out.far (p := ⟨X, 1, none⟩) (by show w.heap.size ≠ X; omega) _, fun d hd => ?_, ?_, Below.drew (HBN.out.setCell (p := ⟨X, 1, none⟩) (by show w.heap.size ≤ X; omega) _)⟩
              · rw [HX'.out]
                exact HXN.out.set 1 _
              · exact (Below.cell (B := X) (p := ⟨g, d, none⟩) (Below.drew ((Below.refl X wr).setCell (p := ⟨X, 1, none⟩) (Nat.le_refl X) _)) hgX).trans (HGN.out.1 d hd)
              · exact (Below.cell (B := X) (p := ⟨g, k, none⟩) (Below.drew ((Below.refl X wr).setCell (p := ⟨X, 1, none⟩) (Nat.le_refl X) _)) hgX).trans HGN.out.2
            case measure => simp [intOf]; omega
          · have hall : (s.data.toList.drop (W.size + 1)).take (n - (W.size + 1)) = s.data.toList.drop (W.size + 1) := List.take_of_length_le (by rw [List.length_drop, Array.length_toList]; show s.size - _ ≤ _; omega)
            rw [hall] at HXN x1
            generalize dfold 0 (s.data.toList.drop (W.size + 1)) = q at *
            have HXQ := hide HXN.out
            have HY5 := hide HYN.out
            have HB5 := hide HBN.out
            have HG5 := hide HGN.out.1
            have hX5 : X < wr.heap.size := hXn
            have hgk : True := trivial
            clear HXN HYN HBN HGN hall xf hXn
            go_wp2_with fail
            refine (codeValidS_any k q _).mono ?_
            rintro e w6 ⟨rfl, b6⟩
            have X6 := HXQ.out.call b6
            have HY6 := hide (HY5.out.call b6)
            have HG6 := hide (show (∀ d, d < 8 → w6.cell? ⟨g, d, none⟩ = some (.string (word d))) ∧ g < w6.heap.size from ⟨fun d hd => (b6.cell (p := ⟨g, d, none⟩) (Nat.lt_of_lt_of_le hgX (Nat.le_of_lt hX5))).trans (HG5.out d hd), Nat.lt_of_lt_of_le (Nat.lt_of_lt_of_le hgX (Nat.le_of_lt hX5)) b6.size⟩)
            have HB6 := hide (HB5.out.trans (b6.mono HB5.out.size))
            clear b6 HB5 HY5 HXQ x0 x1 HG5 hgk
            have x0 := X6.cell 0
            have x1 := X6.cell 1
            simp only [List.getElem?_toArray, List.getElem?_cons_zero, List.getElem?_cons_succ] at x0 x1
            have HX6 := hide X6
            clear X6
            cases hok : codeOk k q
            · have HN' := hide (fun j hj => HK.out j hj (testS_no (.inl (by rw [HNS.out]; exact hok))))
              clear hok HNS HK HN
              go_wp2_with fail
              refine ⟨⟨k + 1, by omega, by go_num, HN'.out, HY6.out, HG6.out.1, HG6.out.2, HB6.out⟩, by simp [intOf]; omega⟩
            · go_wp2_with fail
              refine (codeTextS_any k q _).mono ?_
              rintro e w7 ⟨rfl, b7⟩
              have X7 := HX6.out.call b7
              have Y7 := HY6.out.call b7
              have HG7 := hide (show (∀ d, d < 8 → w7.cell? ⟨g, d, none⟩ = some (.string (word d))) ∧ g < w7.heap.size from ⟨fun d hd => (b7.cell (p := ⟨g, d, none⟩) HG6.out.2).trans (HG6.out.1 d hd), Nat.lt_of_lt_of_le HG6.out.2 b7.size⟩)
              have HB7 := hide (HB6.out.trans (b7.mono HB6.out.size))
              clear b7 HB6 HY6 HX6 x0 x1 HG6
              have x0 := X7.cell 0
              have x1 := X7.cell 1
              have y0 := Y7.cell 0
              have y1 := Y7.cell 1
              have f0 := Y7.frozen 0
              have f1 := Y7.frozen 1
              simp only [List.getElem?_toArray, List.getElem?_cons_zero, List.getElem?_cons_succ] at x0 x1 y0 y1
              have hY7 := Y7.lt
              by_cases hcl : codeL k q = s.data.toList
              · have HI := hide (show Is s.data.toList k q from ⟨hok, hcl⟩)
                have hse : (⟨(codeL k q).toArray⟩ : ByteArray) = s := by rw [hcl]
                rw [hse]
                clear hcl hse HNS HK HN hok
                have HY7 := hide Y7
                clear X7 Y7
                go_wp2_with fail
                refine bodyPost_ret (v := .tuple #[.agg #[.int .i64 k, .int .i64 q], .bool true]) (by simp [results, Tryd.results20, go_sem, y0, y1, hY7]) rfl ⟨.inl ⟨k, q, rfl, HI.out⟩, ?_⟩
                exact (HB7.out.setCell (Nat.le_refl _) _).setCell (Nat.le_refl _) _
              · have hF : (codeL k q == s.toList) = false := by
                  rw [ByteArray.toList_eq, beq_eq_false_iff_ne]
                  exact hcl
                have HN' := hide (fun j hj => HK.out j hj (testS_no (.inr (by rw [HNS.out]; exact hcl))))
                have HY7 := hide Y7
                clear hcl HNS X7 Y7 HK HN x0 x1 y0 y1 f0 f1 hok
                generalize codeL k q = cl at *
                go_wp2_with fail
                refine ⟨⟨k + 1, by omega, by go_num, HN'.out, HY7.out, HG7.out.1, HG7.out.2, HB7.out⟩, by simp [intOf]; omega⟩
    · have HN' := hide (readE_none (l := s.data.toList) (fun j hj => HN.out j (by omega)))
      have hk8' : (k : Int) = 8 := by omega
      clear HN
      go_wp2_with fail
      refine bodyPost_ret (v := .tuple #[.agg #[.int .i64 0, .int .i64 0], .bool false]) (by simp [results, Tryd.results20, go_sem, y0, y1, hlt]) rfl ⟨.inr ⟨rfl, HN'.out⟩, ?_⟩
      exact (HB.out.setCell (Nat.le_refl _) _).setCell (Nat.le_refl _) _
end Go.Proofs.YtjnnjgogpapbhaaDoor.CReadCodeS
