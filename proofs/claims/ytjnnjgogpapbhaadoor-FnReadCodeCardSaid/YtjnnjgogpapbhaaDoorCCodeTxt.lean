/- The texts of instructions: the program's and the reference's. -/
import Derived.Test.YtjnnjgogpapbhaaDoorBWords
import Derived.Test.YtjnnjgogpapbhaaDoorBReg
namespace Go.Proofs.YtjnnjgogpapbhaaDoor.CCodeTxt
set_option maxRecDepth 200000
open Go.ChangeShapes Go.WideShapes Go.ChangeAt Go.RowKit Kit CCode CNumTxt BWords
theorem l29Names_any (w : World) : Calls Tryd.prog 26 #[] w fun e w' => ∃ g, e = .returned (.slice (some ⟨g, 0, none⟩) 8 8) ∧ (∀ d, d < 8 → w'.cell? ⟨g, d, none⟩ = some (.string (word d))) ∧ Below w.heap.size w w' := by
  go_enter Tryd.func26, Tryd.ntmps26
  go_wp2_with fail
  go_ret
  refine ⟨_, rfl, ?_, (by repeat (first | exact Below.refl _ _ | with_reducible assumption | (refine Below.drew ?_) | (refine Below.drewN ?_ _) | (refine Below.alloc ?_ (by simp; try omega) _) | (refine Below.setCell ?_ (by simp; try omega) _)))⟩
  intro d hd
  match d, hd with
  | 0, _ | 1, _ | 2, _ | 3, _ | 4, _ | 5, _ | 6, _ | 7, _ => exact (Box.new w _ _).cell _
theorem codeTextS_any (a b : Int) (w : World) : Calls Tryd.prog 9 #[.agg #[.int .i64 a, .int .i64 b]] w (Ret (.string ⟨(codeL a b).toArray⟩) w) := by
  have X0 := Box.new w 25 #[.int .i64 a, .int .i64 b]
  have B0 : Below w.heap.size w (w.alloc (.cells #[.int .i64 a, .int .i64 b] 25)) := (by repeat (first | exact Below.refl _ _ | with_reducible assumption | (refine Below.drew ?_) | (refine Below.drewN ?_ _) | (refine Below.alloc ?_ (by simp; try omega) _) | (refine Below.setCell ?_ (by simp; try omega) _)))
  have x0 := X0.cell 0
  have x1 := X0.cell 1
  simp only [List.getElem?_toArray, List.getElem?_cons_zero, List.getElem?_cons_succ] at x0 x1
  go_enter Tryd.func9, Tryd.ntmps9
  go_wp2_with fail
  refine (codeValidS_any a b _).mono ?_
  rintro e w1 ⟨rfl, b1⟩
  have X1 := X0.call b1
  have HB1 := hide (B0.trans (b1.mono B0.size))
  have l1 := X1.lt
  clear x0 x1 X0 B0 b1
  have x0 := X1.cell 0
  have x1 := X1.cell 1
  simp only [List.getElem?_toArray, List.getElem?_cons_zero, List.getElem?_cons_succ] at x0 x1
  cases hok : codeOk a b
  · have HV := hide (show (codeL a b) = [] by rw [codeL, hok]; rfl)
    clear hok
    go_wp2_with fail
    go_ret
    exact ⟨by rw [HV.out]; rfl, HB1.out⟩
  · have hd := hok
    simp only [codeOk, decide_eq_true_eq] at hd
    obtain ⟨d, rfl⟩ : ∃ d : Nat, a = d := ⟨a.toNat, by omega⟩
    have hd8 : d < 8 := by omega
    have hd8i : (d : Int) < 8 := by omega
    have hb0 : 0 ≤ b := by omega
    have hb1 : b ≤ 65535 := by omega
    have HV := hide (show codeL d b = bif hasArgB d then wordL d ++ [32] ++ Lib.itoa b else wordL d by rw [codeL, hok]; rfl)
    clear hok hd
    go_wp2_with fail
    have Z1 : w1.cell? ⟨w.heap.size, 0, none⟩ = some (.int .i64 d) ∧ w1.cell? ⟨w.heap.size, 1, none⟩ = some (.int .i64 b) := ⟨x0, x1⟩
    clear x0 x1
    refine Reg.startT (fun W => W.cell? ⟨w.heap.size, 0, none⟩ = some (.int .i64 d) ∧ W.cell? ⟨w.heap.size, 1, none⟩ = some (.int .i64 b)) (fun _ => false) (by kernel_rfl) ?_
    have hHeld : w1.drew.cell? ⟨w.heap.size, 0, none⟩ = some (.int .i64 d) ∧ w1.drew.cell? ⟨w.heap.size, 1, none⟩ = some (.int .i64 b) := Z1
    refine Reg.takeT (i := 1) (v := ?_) rfl (by kernel_rfl) (by kernel_rfl) (by kernel_rfl) (by kernel_rfl) (fun _ _ _ h => h) (Or.inl ⟨by rfl, ?_⟩) (by assumption) ?_
    rotate_left 1
    focus (intro w hSw; (try dsimp only at hSw); go_simp; (try with_reducible rfl))
    try simp only [List.getElem_toArray, List.getElem_cons_succ, List.getElem_cons_zero, Act.put, List.setIfInBounds_toArray, List.set_cons_zero, List.set_cons_succ]
    refine Reg.takeT (i := 2) (v := ?_) rfl (by kernel_rfl) (by kernel_rfl) (by kernel_rfl) (by kernel_rfl) (fun _ _ _ h => h) (Or.inl ⟨by rfl, ?_⟩) (by assumption) ?_
    rotate_left 1
    focus (intro w hSw; (try dsimp only at hSw); go_simp; (try with_reducible rfl))
    try simp only [List.getElem_toArray, List.getElem_cons_succ, List.getElem_cons_zero, Act.put, List.setIfInBounds_toArray, List.set_cons_zero, List.set_cons_succ]
    clear hHeld
    refine Reg.oneT (i := 0) rfl (by kernel_rfl) (fun K hK => ?_)
    go_simp
    refine (l29Names_any _).mono ?_
    rintro e w2 ⟨g, rfl, hw, b2⟩
    have hw2 := hw d hd8
    have HB2 := hide (below_drawn b2)
    have X2 := X1.call HB2.out
    have hHeld : w2.cell? ⟨w.heap.size, 0, none⟩ = some (.int .i64 d) ∧ w2.cell? ⟨w.heap.size, 1, none⟩ = some (.int .i64 b) := ⟨X2.cell 0, X2.cell 1⟩
    clear hw b2
    refine hK.out _ _ hHeld ?_
    clear hK K
    try simp only [List.getElem_toArray, List.getElem_cons_succ, List.getElem_cons_zero, Act.put, List.setIfInBounds_toArray, List.set_cons_zero, List.set_cons_succ]
    refine Reg.oneT (i := 3) rfl (by kernel_rfl) (fun K hK => ?_)
    go_simp
    refine hK.out _ _ hHeld ?_
    clear hK K
    try simp only [List.getElem_toArray, List.getElem_cons_succ, List.getElem_cons_zero, Act.put, List.setIfInBounds_toArray, List.set_cons_zero, List.set_cons_succ]
    refine Reg.oneT (i := 4) rfl (by kernel_rfl) (fun K hK => ?_)
    go_simp
    refine hK.out _ _ hHeld ?_
    clear hK K
    try simp only [List.getElem_toArray, List.getElem_cons_succ, List.getElem_cons_zero, Act.put, List.setIfInBounds_toArray, List.set_cons_zero, List.set_cons_succ]
    refine Reg.takeT (i := 5) (v := ?_) rfl (by kernel_rfl) (by kernel_rfl) (by kernel_rfl) (by kernel_rfl) (fun _ _ _ h => h) (Or.inl ⟨by rfl, ?_⟩) (by assumption) ?_
    rotate_left 1
    focus (intro w hSw; (try dsimp only at hSw); go_simp; (try with_reducible rfl))
    try simp only [List.getElem_toArray, List.getElem_cons_succ, List.getElem_cons_zero, Act.put, List.setIfInBounds_toArray, List.set_cons_zero, List.set_cons_succ]
    refine Reg.doneT (by kernel_rfl) ?_ _
    have l2 := X2.lt
    have y0 := hHeld.1
    have y1 := hHeld.2
    clear hHeld Z1 hw2 X1
    have hb2 : Below w.heap.size w w2 := HB1.out.trans (HB2.out.mono HB1.out.size)
    have HBB := hide hb2
    have hsz := word_size d
    have HWE := hide (show word d = ⟨(wordL d).toArray⟩ from rfl)
    clear hb2 HB1 HB2
    generalize word d = W at *
    have hs1 : ¬ 9223372036854775807 < W.size + 1 := by omega
    cases ha : hasArgB d
    · rw [ha] at HV
      simp only [cond_false] at HV
      go_wp2_with (first | (go_at_call 27; refine (l29Has_any _ _).mono ?_; rintro e w' ⟨rfl, rfl⟩) | fail)
      go_ret
      exact ⟨by rw [HV.out, HWE.out]; rfl, HBB.out⟩
    · rw [ha] at HV
      simp only [cond_true] at HV
      have hn := Lib.itoa_length_le b (by omega) (by omega)
      have HN := hide (show ∀ l : List UInt8, l.length ≤ 21 → ((W ++ (⟨#[32]⟩ : ByteArray)) ++ (⟨l.toArray⟩ : ByteArray)) = ⟨(wordL d ++ [32] ++ l).toArray⟩ from fun l _ => by
        rw [HWE.out, show ((⟨(wordL d).toArray⟩ : ByteArray) ++ (⟨#[32]⟩ : ByteArray)) = ⟨(wordL d ++ [32]).toArray⟩ from str_add _ [32], str_add])
      have HQ := hide (l8Number_any b w2 (by omega) (by omega))
      have HNN := hide (HN.out _ hn)
      have hs2 : ¬ 9223372036854775807 < W.size + 1 + (Lib.itoa b).length := by omega
      clear HN
      generalize Lib.itoa b = l at *
      go_wp2_with (first | (go_at_call 27; refine (l29Has_any _ _).mono ?_; rintro e w' ⟨rfl, rfl⟩) | fail)
      refine HQ.out.mono ?_
      rintro e w3 ⟨rfl, b3⟩
      have HB3 := hide (HBB.out.trans (b3.mono HBB.out.size))
      clear b3 HBB HQ
      go_wp2_with fail
      go_ret
      exact ⟨by rw [HV.out, ← HNN.out]; rfl, HB3.out⟩
theorem codeText_any (a b : Int) (w : World) (hL : LW w) (hT : Tab w) : Calls Tryd.prog 11 #[.agg #[.int .i64 a, .int .i64 b]] w (Ret (.string ⟨(codeL a b).toArray⟩) w) := by
  have X0 := Box.new w 25 #[.int .i64 a, .int .i64 b]
  have B0 : Below w.heap.size w (w.alloc (.cells #[.int .i64 a, .int .i64 b] 25)) := (by repeat (first | exact Below.refl _ _ | with_reducible assumption | (refine Below.drew ?_) | (refine Below.drewN ?_ _) | (refine Below.alloc ?_ (by simp; try omega) _) | (refine Below.setCell ?_ (by simp; try omega) _)))
  have x0 := X0.cell 0
  have x1 := X0.cell 1
  simp only [List.getElem?_toArray, List.getElem?_cons_zero, List.getElem?_cons_succ] at x0 x1
  have HL0 := hide hL
  have HT0 := hide hT
  clear hL hT
  go_enter Tryd.func11, Tryd.ntmps11
  go_wp2_with fail
  refine (codeValid_any a b _).mono ?_
  rintro e w1 ⟨rfl, b1⟩
  have X1 := X0.call b1
  have HB1 := hide (B0.trans (b1.mono B0.size))
  have l1 := X1.lt
  clear x0 x1 X0 B0 b1
  have x0 := X1.cell 0
  have x1 := X1.cell 1
  simp only [List.getElem?_toArray, List.getElem?_cons_zero, List.getElem?_cons_succ] at x0 x1
  cases hok : codeOk a b
  · have HV := hide (show (codeL a b) = [] by rw [codeL, hok]; rfl)
    clear hok
    go_wp2_with fail
    go_ret
    exact ⟨by rw [HV.out]; rfl, HB1.out⟩
  · have hd := hok
    simp only [codeOk, decide_eq_true_eq] at hd
    obtain ⟨d, rfl⟩ : ∃ d : Nat, a = d := ⟨a.toNat, by omega⟩
    have hd8 : d < 8 := by omega
    have hd8i : (d : Int) < 8 := by omega
    have hb0 : 0 ≤ b := by omega
    have hb1 : b ≤ 65535 := by omega
    have HV := hide (show codeL d b = bif hasArgB d then wordL d ++ [32] ++ Lib.itoa b else wordL d by rw [codeL, hok]; rfl)
    clear hok hd
    have hw := (HL0.out.below HB1.out).word d hd8
    have HP := hide (HL0.out.below HB1.out).pos
    have hsz := word_size d
    have HWE := hide (show word d = ⟨(wordL d).toArray⟩ from rfl)
    have HT1 := hide (HT0.out.below HB1.out)
    clear HL0 HT0
    generalize word d = W at *
    have hs1 : ¬ 9223372036854775807 < W.size + 1 := by omega
    go_wp2_with fail
    refine (hasArg_any _ _).mono ?_
    rintro e w' ⟨rfl, rfl⟩
    cases ha : hasArgB d
    · rw [ha] at HV
      simp only [cond_false] at HV
      go_wp2_with fail
      go_ret
      exact ⟨by rw [HV.out, HWE.out]; rfl, HB1.out⟩
    · rw [ha] at HV
      simp only [cond_true] at HV
      have hn := Lib.itoa_length_le b (by omega) (by omega)
      have HNN := hide (show ((W ++ (⟨#[32]⟩ : ByteArray)) ++ (⟨(Lib.itoa b).toArray⟩ : ByteArray)) = ⟨(wordL d ++ [32] ++ Lib.itoa b).toArray⟩ by
        rw [HWE.out, show ((⟨(wordL d).toArray⟩ : ByteArray) ++ (⟨#[32]⟩ : ByteArray)) = ⟨(wordL d ++ [32]).toArray⟩ from str_add _ [32], str_add])
      have HQ := hide (itoa_any b (by omega) (by omega) w1.drew HT1.out)
      have hs2 : ¬ 9223372036854775807 < W.size + 1 + (Lib.itoa b).length := by omega
      clear HT1 HWE
      generalize Lib.itoa b = l at *
      go_wp2_with fail
      have Z1 : w1.cell? ⟨w.heap.size, 0, none⟩ = some (.int .i64 d) ∧ w1.cell? ⟨w.heap.size, 1, none⟩ = some (.int .i64 b) ∧ w1.cell? ⟨0, d, none⟩ = some (.string W) := ⟨x0, x1, hw⟩
      clear x0 x1 hw
      refine Reg.startT (fun V => V.cell? ⟨w.heap.size, 0, none⟩ = some (.int .i64 d) ∧ V.cell? ⟨w.heap.size, 1, none⟩ = some (.int .i64 b) ∧ V.cell? ⟨0, d, none⟩ = some (.string W)) (fun _ => false) (by kernel_rfl) ?_
      have hHeld : w1.drew.cell? ⟨w.heap.size, 0, none⟩ = some (.int .i64 d) ∧ w1.drew.cell? ⟨w.heap.size, 1, none⟩ = some (.int .i64 b) ∧ w1.drew.cell? ⟨0, d, none⟩ = some (.string W) := Z1
      refine Reg.takeT (i := 0) (v := ?_) rfl (by kernel_rfl) (by kernel_rfl) (by kernel_rfl) (by kernel_rfl) (fun _ _ _ h => h) (Or.inl ⟨by rfl, ?_⟩) (by assumption) ?_
      rotate_left 1
      focus (intro w hSw; (try dsimp only at hSw); go_simp; (try with_reducible rfl))
      try simp only [List.getElem_toArray, List.getElem_cons_succ, List.getElem_cons_zero, Act.put, List.setIfInBounds_toArray, List.set_cons_zero, List.set_cons_succ]
      refine Reg.takeT (i := 1) (v := ?_) rfl (by kernel_rfl) (by kernel_rfl) (by kernel_rfl) (by kernel_rfl) (fun _ _ _ h => h) (Or.inl ⟨by rfl, ?_⟩) (by assumption) ?_
      rotate_left 1
      focus (intro w hSw; (try dsimp only at hSw); go_simp; (try with_reducible rfl))
      try simp only [List.getElem_toArray, List.getElem_cons_succ, List.getElem_cons_zero, Act.put, List.setIfInBounds_toArray, List.set_cons_zero, List.set_cons_succ]
      refine Reg.takeT (i := 2) (v := ?_) rfl (by kernel_rfl) (by kernel_rfl) (by kernel_rfl) (by kernel_rfl) (fun _ _ _ h => h) (Or.inl ⟨by rfl, ?_⟩) (by assumption) ?_
      rotate_left 1
      focus (intro w hSw; (try dsimp only at hSw); go_simp; (try with_reducible rfl))
      try simp only [List.getElem_toArray, List.getElem_cons_succ, List.getElem_cons_zero, Act.put, List.setIfInBounds_toArray, List.set_cons_zero, List.set_cons_succ]
      refine Reg.takeT (i := 3) (v := ?_) rfl (by kernel_rfl) (by kernel_rfl) (by kernel_rfl) (by kernel_rfl) (fun _ _ _ h => h) (Or.inl ⟨by rfl, ?_⟩) (by assumption) ?_
      rotate_left 1
      focus (intro w hSw; (try dsimp only at hSw); go_simp; (try with_reducible rfl))
      try simp only [List.getElem_toArray, List.getElem_cons_succ, List.getElem_cons_zero, Act.put, List.setIfInBounds_toArray, List.set_cons_zero, List.set_cons_succ]
      refine Reg.takeT (i := 4) (v := ?_) rfl (by kernel_rfl) (by kernel_rfl) (by kernel_rfl) (by kernel_rfl) (fun _ _ _ h => h) (Or.inl ⟨by rfl, ?_⟩) (by assumption) ?_
      rotate_left 1
      focus (intro w hSw; (try dsimp only at hSw); go_simp; (try with_reducible rfl))
      try simp only [List.getElem_toArray, List.getElem_cons_succ, List.getElem_cons_zero, Act.put, List.setIfInBounds_toArray, List.set_cons_zero, List.set_cons_succ]
      refine Reg.takeT (i := 5) (v := ?_) rfl (by kernel_rfl) (by kernel_rfl) (by kernel_rfl) (by kernel_rfl) (fun _ _ _ h => h) (Or.inl ⟨by rfl, ?_⟩) (by assumption) ?_
      rotate_left 1
      focus (intro w hSw; (try dsimp only at hSw); go_simp; (try with_reducible rfl))
      try simp only [List.getElem_toArray, List.getElem_cons_succ, List.getElem_cons_zero, Act.put, List.setIfInBounds_toArray, List.set_cons_zero, List.set_cons_succ]
      refine Reg.takeT (i := 6) (v := ?_) rfl (by kernel_rfl) (by kernel_rfl) (by kernel_rfl) (by kernel_rfl) (fun _ _ _ h => h) (Or.inl ⟨by rfl, ?_⟩) (by assumption) ?_
      rotate_left 1
      focus (intro w hSw; (try dsimp only at hSw); go_simp; (try with_reducible rfl))
      try simp only [List.getElem_toArray, List.getElem_cons_succ, List.getElem_cons_zero, Act.put, List.setIfInBounds_toArray, List.set_cons_zero, List.set_cons_succ]
      refine Reg.oneT (i := 7) rfl (by kernel_rfl) (fun K hK => ?_)
      go_simp
      refine HQ.out.mono ?_
      rintro e w2 ⟨rfl, b2⟩
      have HB2 := hide (below_drawn b2)
      have X2 := X1.call HB2.out
      have hHeld : w2.cell? ⟨w.heap.size, 0, none⟩ = some (.int .i64 d) ∧ w2.cell? ⟨w.heap.size, 1, none⟩ = some (.int .i64 b) ∧ w2.cell? ⟨0, d, none⟩ = some (.string W) := ⟨X2.cell 0, X2.cell 1, (HB2.out.cell (p := ⟨0, d, none⟩) HP.out).trans Z1.2.2⟩
      have HBB := hide (HB1.out.trans (HB2.out.mono HB1.out.size))
      clear b2
      refine hK.out _ _ hHeld ?_
      clear hK K
      try simp only [List.getElem_toArray, List.getElem_cons_succ, List.getElem_cons_zero, Act.put, List.setIfInBounds_toArray, List.set_cons_zero, List.set_cons_succ]
      refine Reg.takeT (i := 8) (v := ?_) rfl (by kernel_rfl) (by kernel_rfl) (by kernel_rfl) (by kernel_rfl) (fun _ _ _ h => h) (Or.inl ⟨by rfl, ?_⟩) (by assumption) ?_
      rotate_left 1
      focus (intro w hSw; (try dsimp only at hSw); go_simp; (try with_reducible rfl))
      try simp only [List.getElem_toArray, List.getElem_cons_succ, List.getElem_cons_zero, Act.put, List.setIfInBounds_toArray, List.set_cons_zero, List.set_cons_succ]
      refine Reg.takeT (i := 9) (v := ?_) rfl (by kernel_rfl) (by kernel_rfl) (by kernel_rfl) (by kernel_rfl) (fun _ _ _ h => h) (Or.inl ⟨by rfl, ?_⟩) (by assumption) ?_
      rotate_left 1
      focus (intro w hSw; (try dsimp only at hSw); go_simp; (try with_reducible rfl))
      try simp only [List.getElem_toArray, List.getElem_cons_succ, List.getElem_cons_zero, Act.put, List.setIfInBounds_toArray, List.set_cons_zero, List.set_cons_succ]
      refine Reg.doneT (by kernel_rfl) ?_ _
      clear hHeld Z1
      go_wp2_with fail
      go_ret
      exact ⟨by rw [HV.out, ← HNN.out]; rfl, HBB.out⟩
end Go.Proofs.YtjnnjgogpapbhaaDoor.CCodeTxt
