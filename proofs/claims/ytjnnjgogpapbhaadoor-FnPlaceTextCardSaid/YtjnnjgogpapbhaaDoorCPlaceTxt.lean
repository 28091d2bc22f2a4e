/- The texts of places: the program's and the reference's. -/
import Derived.Test.YtjnnjgogpapbhaaDoorCLandmarks
import Derived.Test.YtjnnjgogpapbhaaDoorCLandmarkBefore
import Derived.Test.YtjnnjgogpapbhaaDoorCNumTxt
import Derived.Test.YtjnnjgogpapbhaaDoorBWords
import Derived.Test.YtjnnjgogpapbhaaDoorBReg
namespace Go.Proofs.YtjnnjgogpapbhaaDoor.CPlaceTxt
set_option maxRecDepth 200000
open Go.ChangeShapes Go.WideShapes Go.ChangeAt Go.RowKit Kit CCode CNumTxt BWords CLandmarks CLandmarkBefore
def okP (p : Int) : Bool := inB p (-99999) 99999
def textB (at_ : Int) (b : Option D) : ByteArray := match b with
  | none => ⟨(Lib.itoa at_).toArray⟩
  | some z => if z.2 = at_ then z.1 else z.1 ++ (⟨#[43]⟩ : ByteArray) ++ (⟨(Lib.itoa (at_ - z.2)).toArray⟩ : ByteArray)
/-- The text of a place. -/
def placeB (zs : List D) (at_ : Int) : ByteArray := bif okP at_ && zs.all (fun z => okP z.2) then textB at_ (bestL zs at_) else ⟨#[]⟩
theorem bestL_mem {zs : List D} {at_ : Int} {z : D} (h : bestL zs at_ = some z) : z ∈ zs ∧ z.2 ≤ at_ := by
  have key : ∀ (l : List D) (b : Option D), (∀ y, b = some y → y ∈ zs ∧ y.2 ≤ at_) → (∀ y ∈ l, y ∈ zs) → ∀ y, l.foldl (better at_) b = some y → y ∈ zs ∧ y.2 ≤ at_ := by
    intro l
    induction l with
    | nil => intro b hb _ y hy; exact hb y hy
    | cons x l ih =>
      intro b hb hl y hy
      refine ih (better at_ b x) ?_ (fun y hy => hl y (by simp [hy])) y hy
      intro y hy
      unfold better at hy
      split at hy
      · rename_i hc
        cases hy
        exact ⟨hl _ (by simp), hc.1⟩
      · exact hb y hy
  exact key zs none (fun y hy => by cases hy) (fun y hy => hy) z h
theorem pred_any (s : ByteArray) (p : Int) (w : World) : Calls Tryd.prog 38 #[.agg #[.string s, .int .i64 p]] w (Ret (.bool (!okP p)) w) := by
  have HB0 := hide (show Below w.heap.size w (w.alloc (.cells #[.string s, .int .i64 p] 40)) from (by repeat (first | exact Below.refl _ _ | with_reducible assumption | (refine Below.drew ?_) | (refine Below.drewN ?_ _) | (refine Below.alloc ?_ (by simp; try omega) _) | (refine Below.setCell ?_ (by simp; try omega) _))))
  go_enter Tryd.func38, Tryd.ntmps38
  go_wp2_with fail
  refine (within_any _ _ _ _).mono ?_
  rintro e w' ⟨rfl, rfl⟩
  go_wp2_with fail
  go_ret
  exact ⟨rfl, HB0.out⟩
theorem indexFunc_any (A : Option Addr) (zs : List D) (c : Nat) (w : World) (hr : Rd w w.heap.size A (cellsOf landmarkC zs)) (hm : zs.length ≤ maxLen) :
    Calls Tryd.prog 48 #[.slice A zs.length c, .func (.func 38) #[] #[]] w fun e w' => ∃ r : Int, e = .returned (.int .i64 r) ∧ decide (0 ≤ r) = zs.any (fun z => !okP z.2) ∧ Below w.heap.size w w' := by
  unfold maxLen at hm
  go_enter Tryd.func48, Tryd.ntmps48
  go_wp2
  go_loopw [8] (fun i wr => ∃ k : Nat, k ≤ zs.length ∧ i = .int .i64 k ∧ (zs.take k).any (fun z => !okP z.2) = false ∧ Below w.heap.size w wr) (fun i _ => zs.length - (intOf i).toNat)
  case atStart => exact ⟨0, Nat.zero_le _, rfl, rfl, Below.refl _ _⟩
  case round =>
    obtain ⟨k, hk, rfl, hn, hb⟩ := hrel
    have HB := hide hb
    by_cases hlt : k < zs.length
    · obtain ⟨b, off, rfl, hbb, hc⟩ := (hr.below hb).row landmarkC_len (by decide) hlt
      have hc0 := hc 0 _ rfl
      have hc1 := hc 1 _ rfl
      simp only [Nat.add_zero] at hc0
      have HS := hide (show (zs.take (k + 1)).any (fun z => !okP z.2) = (!okP zs[k].2) by rw [take_succ hlt, List.any_append, hn]; simp)
      have HT := hide (show (!okP zs[k].2) = true → zs.any (fun z => !okP z.2) = true from fun h => List.any_eq_true.2 ⟨_, List.getElem_mem hlt, h⟩)
      clear hr hb hc hn
      generalize zs[k] = z at *
      have hpred := fun W => pred_any z.1 z.2 W
      cases h : okP z.2
      · have HT' := hide (HT.out (by rw [h]; rfl))
        rw [h] at hpred
        simp only [Bool.not_false] at hpred
        clear HT HS h
        go_wp2_with fail
        refine (hpred _).mono ?_
        rintro e w2 ⟨rfl, b2⟩
        have HB' := hide (HB.out.trans (b2.mono HB.out.size))
        clear b2 hc0 hc1
        go_wp2_with fail
        go_ret
        exact ⟨k, rfl, by rw [HT'.out]; simp, HB'.out⟩
      · have HS' := hide (HS.out.trans (by rw [h]; rfl : (!okP z.2) = false))
        rw [h] at hpred
        simp only [Bool.not_true] at hpred
        clear HT HS h
        go_wp2_with fail
        refine (hpred _).mono ?_
        rintro e w2 ⟨rfl, b2⟩
        have HB' := hide (HB.out.trans (b2.mono HB.out.size))
        clear b2 hc0 hc1
        go_wp2_with fail
        refine ⟨⟨k + 1, by omega, by go_num, HS'.out, HB'.out⟩, by simp [intOf]; omega⟩
    · have HN := hide (show zs.any (fun z => !okP z.2) = false by rw [← hn, List.take_of_length_le (by omega)])
      clear hr hb hn
      go_wp2_with fail
      go_ret
      exact ⟨-1, rfl, by rw [HN.out]; rfl, HB.out⟩
theorem containsFunc_any (A : Option Addr) (zs : List D) (c : Nat) (w : World) (hr : Rd w w.heap.size A (cellsOf landmarkC zs)) (hm : zs.length ≤ maxLen) :
    Calls Tryd.prog 37 #[.slice A zs.length c, .func (.func 38) #[] #[]] w (Ret (.bool (zs.any (fun z => !okP z.2))) w) := by
  go_enter Tryd.func37, Tryd.ntmps37
  go_wp2_with fail
  refine (indexFunc_any A zs c w hr hm).mono ?_
  rintro e w2 ⟨r, rfl, hr2, b2⟩
  have HR := hide hr2
  have HB := hide b2
  clear hr2 b2 hr
  go_wp2_with fail
  go_ret
  exact ⟨by rw [← HR.out]; rfl, HB.out⟩
theorem placeText_any (A : Option Addr) (zs : List D) (c : Nat) (at_ : Int) (w : World) (hr : Rd w w.heap.size A (cellsOf landmarkC zs)) (hm : zs.length ≤ maxLen) (hz : ∀ x ∈ zs, x.1.size ≤ 1048576)
    (h0 : -9223372036854775808 ≤ at_) (h1 : at_ ≤ 9223372036854775807) (hT : Tab w) :
    Calls Tryd.prog 15 #[.slice A zs.length c, .int .i64 at_] w (Ret (.string (placeB zs at_)) w) := by
  have HT0 := hide hT
  clear hT
  go_enter Tryd.func15, Tryd.ntmps15
  go_wp2_with fail
  refine (within_any _ _ _ _).mono ?_
  rintro e w' ⟨rfl, rfl⟩
  have HA := hide (show inB at_ (-99999) 99999 = okP at_ from rfl)
  rw [HA.out]
  cases ha : okP at_
  · have HV := hide (show placeB zs at_ = ⟨#[]⟩ by rw [placeB, ha]; rfl)
    clear HA ha hr hz
    go_wp2_with fail
    go_ret
    exact ⟨by rw [HV.out]; rfl, Below.refl _ _⟩
  have har := ha
  simp only [okP, inB, decide_eq_true_eq] at har
  clear HA
  go_wp2_with fail
  refine (containsFunc_any A zs c _ hr hm).mono ?_
  rintro e w1 ⟨rfl, b1⟩
  have HB1 := hide b1
  have hany : zs.any (fun z => !okP z.2) = !(zs.all fun z => okP z.2) := by
    rw [List.all_eq_not_any_not, Bool.not_not]
  rw [hany]
  cases hall : zs.all fun z => okP z.2
  · have HV := hide (show placeB zs at_ = ⟨#[]⟩ by rw [placeB, ha, hall]; rfl)
    clear ha hr hz hany hall b1
    go_wp2_with fail
    go_ret
    exact ⟨by rw [HV.out]; rfl, HB1.out⟩
  have HV := hide (show placeB zs at_ = textB at_ (bestL zs at_) by rw [placeB, ha, hall]; rfl)
  have hr1 := (hr.below b1).more b1.size
  clear b1 hr
  go_wp2_with fail
  refine (landmarkBefore_any A zs c at_ _ hr1 hm).mono ?_
  rintro e w2 ⟨rfl, b2⟩
  have HB2 := hide (HB1.out.trans (b2.mono HB1.out.size))
  have HT2 := hide (HT0.out.below HB2.out)
  clear b2 hr1 HB1 HT0
  cases hb : bestL zs at_ with
  | none =>
    rw [hb] at HV
    clear hb hz hall hany ha
    unfold res
    simp only
    go_wp2_with fail
    refine (itoa_any at_ (by omega) (by omega) _ (HT2.out.below (show Below w2.heap.size w2 (w2.alloc _) from (by repeat (first | exact Below.refl _ _ | with_reducible assumption | (refine Below.drew ?_) | (refine Below.drewN ?_ _) | (refine Below.alloc ?_ (by simp; try omega) _) | (refine Below.setCell ?_ (by simp; try omega) _)))))).mono ?_
    rintro e w3 ⟨rfl, b3⟩
    have HB3 := hide ((HB2.out.alloc HB2.out.size _).trans (b3.mono (HB2.out.alloc HB2.out.size _).size))
    clear b3
    go_wp2_with fail
    go_ret
    exact ⟨by rw [HV.out]; rfl, HB3.out⟩
  | some z =>
    obtain ⟨hmem, hle⟩ := bestL_mem hb
    have hzs := hz z hmem
    have hzr := List.all_eq_true.1 hall z hmem
    simp only [okP, inB, decide_eq_true_eq] at hzr
    rw [hb] at HV
    clear hb hz hall hany ha hmem
    unfold res
    simp only
    by_cases he : z.2 = at_
    · have HV' := hide (HV.out.trans (show textB at_ (some z) = z.1 by rw [textB, if_pos he]))
      clear HV
      go_wp2_with fail
      go_ret
      exact ⟨by rw [HV'.out]; rfl, HB2.out.alloc HB2.out.size _⟩
    · have HV' := hide (HV.out.trans (show textB at_ (some z) = z.1 ++ (⟨#[43]⟩ : ByteArray) ++ (⟨(Lib.itoa (at_ - z.2)).toArray⟩ : ByteArray) by rw [textB, if_neg he]))
      have hlt : z.2 < at_ := by omega
      have hne : (z.2 == at_) = false := by simpa using he
      clear HV he
      have hn := Lib.itoa_length_le (at_ - z.2) (by omega) (by omega)
      have hwr : IntKind.i64.wrap (at_ - z.2) = at_ - z.2 := IntWalk.i64_in _ (by omega)
      have HQ := hide (fun V hV => itoa_any (at_ - z.2) (by omega) (by omega) V hV)
      generalize hy : Lib.itoa (at_ - z.2) = l at *
      clear hy
      have hs1 : ¬ 9223372036854775807 < z.1.size + 1 := by omega
      have hs2 : ¬ 9223372036854775807 < z.1.size + 1 + l.length := by omega
      go_wp2_with fail
      have X3 := Box.new w2 40 #[.string z.1, .int .i64 z.2]
      have HB3 := hide (HB2.out.alloc HB2.out.size (.cells #[.string z.1, .int .i64 z.2] 40))
      have HT3 := hide (HT2.out.below (show Below w2.heap.size w2 (w2.alloc (.cells #[.string z.1, .int .i64 z.2] 40)) from (by repeat (first | exact Below.refl _ _ | with_reducible assumption | (refine Below.drew ?_) | (refine Below.drewN ?_ _) | (refine Below.alloc ?_ (by simp; try omega) _) | (refine Below.setCell ?_ (by simp; try omega) _)))))
      have hl3 : w2.heap.size < (w2.alloc (.cells #[.string z.1, .int .i64 z.2] 40)).heap.size := by simp
      generalize w2.alloc (.cells #[.string z.1, .int .i64 z.2] 40) = w3 at *
      refine Reg.startT (fun V => V.cell? ⟨w2.heap.size, 0, none⟩ = some (.string z.1) ∧ V.cell? ⟨w2.heap.size, 1, none⟩ = some (.int .i64 z.2)) (fun _ => false) (by kernel_rfl) ?_
      have hHeld : w3.drew.cell? ⟨w2.heap.size, 0, none⟩ = some (.string z.1) ∧ w3.drew.cell? ⟨w2.heap.size, 1, none⟩ = some (.int .i64 z.2) := ⟨X3.cell 0, X3.cell 1⟩
      refine Reg.takeT (i := 0) (v := ?_) rfl (by kernel_rfl) (by kernel_rfl) (by kernel_rfl) (by kernel_rfl) (fun _ _ _ h => h) (Or.inl ⟨by rfl, ?_⟩) (by assumption) ?_
      rotate_left 1
      focus (intro w hSw; (try dsimp only at hSw); go_simp; (try with_reducible rfl))
      try simp only [List.getElem_toArray, List.getElem_cons_succ, List.getElem_cons_zero, Act.put, List.setIfInBounds_toArray, List.set_cons_zero, List.set_cons_succ]
      refine Reg.takeT (i := 1) (v := ?_) rfl (by kernel_rfl) (by kernel_rfl) (by kernel_rfl) (by kernel_rfl) (fun _ _ _ h => h) (Or.inl ⟨by rfl, ?_⟩) (by assumption) ?_
      rotate_left 1
      focus (intro w hSw; (try dsimp only at hSw); go_simp; (try with_reducible rfl))
      try simp only [List.getElem_toArray, List.getElem_cons_succ, List.getElem_cons_zero, Act.put, List.setIfInBounds_toArray, List.set_cons_zero, List.set_cons_succ]
      refine Reg.takeT (i := 2) (v := ?_) rfl (by kernel_rfl) (by kernel_rfl) (by kernel_rfl) (by kernel_rfl) (fun _ _ _ h => h) (Or.inl ⟨by rfl, ?_⟩) (by assumption) ?_
      rotate_left 1
      focus (intro w hSw; (try dsimp only at hSw); go_simp; (try with_reducible rfl))
      try simp only [List.getElem_toArray, List.getElem_cons_succ, List.getElem_cons_zero, Act.put, List.setIfInBounds_toArray, List.set_cons_zero, List.set_cons_succ]
      refine Reg.takeT (i := 3) (v := ?_) rfl (by kernel_rfl) (by kernel_rfl) (by kernel_rfl) (by kernel_rfl) (fun _ _ _ h => h) (Or.inl ⟨by rfl, ?_⟩) (by assumption) ?_
      rotate_left 1
      focus (intro w hSw; (try dsimp only at hSw); go_simp; (try with_reducible rfl))
      try simp only [List.getElem_toArray, List.getElem_cons_succ, List.getElem_cons_zero, Act.put, List.setIfInBounds_toArray, List.set_cons_zero, List.set_cons_succ]
      refine Reg.takeT (i := 4) (v := ?_) rfl (by kernel_rfl) (by kernel_rfl) (by kernel_rfl) (by kernel_rfl) (fun _ _ _ h => h) (Or.inl ⟨by rfl, ?_⟩) (by assumption) ?_
      rotate_left 1
      focus (intro w hSw; (try dsimp only at hSw); go_simp; (try with_reducible rfl))
      try simp only [List.getElem_toArray, List.getElem_cons_succ, List.getElem_cons_zero, Act.put, List.setIfInBounds_toArray, List.set_cons_zero, List.set_cons_succ]
      refine Reg.takeT (i := 5) (v := ?_) rfl (by kernel_rfl) (by kernel_rfl) (by kernel_rfl) (by kernel_rfl) (fun _ _ _ h => h) (Or.inl ⟨by rfl, ?_⟩) (by assumption) ?_
      rotate_left 1
      focus (intro w hSw; (try dsimp only at hSw); go_simp; (try with_reducible rfl))
      try simp only [List.getElem_toArray, List.getElem_cons_succ, List.getElem_cons_zero, Act.put, List.setIfInBounds_toArray, List.set_cons_zero, List.set_cons_succ]
      refine Reg.takeT (i := 6) (v := ?_) rfl (by kernel_rfl) (by kernel_rfl) (by kernel_rfl) (by kernel_rfl) (fun _ _ _ h => h) (Or.inl ⟨by rfl, ?_⟩) (by assumption) ?_
      rotate_left 1
      focus (intro w hSw; (try dsimp only at hSw); go_simp; (try with_reducible rfl))
      try simp only [List.getElem_toArray, List.getElem_cons_succ, List.getElem_cons_zero, Act.put, List.setIfInBounds_toArray, List.set_cons_zero, List.set_cons_succ]
      refine Reg.oneT (i := 7) rfl (by kernel_rfl) (fun K hK => ?_)
      go_simp
      refine (HQ.out w3.drew HT3.out).mono ?_
      rintro e w4 ⟨rfl, b4⟩
      have HB4 := hide (below_drawn b4)
      have X4 := X3.call HB4.out
      have hHeld : w4.cell? ⟨w2.heap.size, 0, none⟩ = some (.string z.1) ∧ w4.cell? ⟨w2.heap.size, 1, none⟩ = some (.int .i64 z.2) := ⟨X4.cell 0, X4.cell 1⟩
      have HBB := hide (HB3.out.trans (HB4.out.mono HB3.out.size))
      clear b4
      refine hK.out _ _ hHeld ?_
      clear hK K
      try simp only [List.getElem_toArray, List.getElem_cons_succ, List.getElem_cons_zero, Act.put, List.setIfInBounds_toArray, List.set_cons_zero, List.set_cons_succ]
      refine Reg.takeT (i := 8) (v := ?_) rfl (by kernel_rfl) (by kernel_rfl) (by kernel_rfl) (by kernel_rfl) (fun _ _ _ h => h) (Or.inl ⟨by rfl, ?_⟩) (by assumption) ?_
      rotate_left 1
      focus (intro w hSw; (try dsimp only at hSw); go_simp; (try with_reducible rfl))
      try simp only [List.getElem_toArray, List.getElem_cons_succ, List.getElem_cons_zero, Act.put, List.setIfInBounds_toArray, List.set_cons_zero, List.set_cons_succ]
      refine Reg.takeT (i := 9) (v := ?_) rfl (by kernel_rfl) (by kernel_rfl) (by kernel_rfl) (by kernel_rfl) (fun _ _ _ h => h) (Or.inl ⟨by rfl, ?_⟩) (by assumption) ?_
      rotate_left 1
      focus (intro w hSw; (try dsimp only at hSw); go_simp; (try with_reducible rfl))
      try simp only [List.getElem_toArray, List.getElem_cons_succ, List.getElem_cons_zero, Act.put, List.setIfInBounds_toArray, List.set_cons_zero, List.set_cons_succ]
      refine Reg.doneT (by kernel_rfl) ?_ _
      clear hHeld
      go_wp2_with fail
      go_ret
      exact ⟨by rw [HV'.out]; rfl, HBB.out⟩
theorem placeTextS_any (A : Option Addr) (zs : List D) (c : Nat) (at_ : Int) (w : World) (hr : Rd w w.heap.size A (cellsOf landmarkC zs)) (hm : zs.length ≤ maxLen) (hz : ∀ x ∈ zs, x.1.size ≤ 1048576)
    (h0 : -9223372036854775808 ≤ at_) (h1 : at_ ≤ 9223372036854775807) :
    Calls Tryd.prog 13 #[.slice A zs.length c, .int .i64 at_] w (Ret (.string (placeB zs at_)) w) := by
  unfold maxLen at hm
  go_enter Tryd.func13, Tryd.ntmps13
  go_wp2_with fail
  refine (l1In_any _ _ _ _).mono ?_
  rintro e w' ⟨rfl, rfl⟩
  have HA := hide (show inB at_ (-99999) 99999 = okP at_ from rfl)
  rw [HA.out]
  cases ha : okP at_
  · have HV := hide (show placeB zs at_ = ⟨#[]⟩ by rw [placeB, ha]; rfl)
    clear HA ha hr hz
    go_wp2_with fail
    go_ret
    exact ⟨by rw [HV.out]; rfl, Below.refl _ _⟩
  have har := ha
  simp only [okP, inB, decide_eq_true_eq] at har
  clear HA
  go_wp2_with fail
  go_loopw [5] (fun i wr => ∃ k : Nat, k ≤ zs.length ∧ i = .int .i64 k ∧ (zs.take k).all (fun z => okP z.2) = true ∧ Below w.heap.size w wr) (fun i _ => zs.length - (intOf i).toNat)
  case atStart => exact ⟨0, Nat.zero_le _, rfl, rfl, Below.refl _ _⟩
  case round =>
    obtain ⟨k, hk, rfl, hn, hb⟩ := hrel
    have HB := hide hb
    by_cases hlt : k < zs.length
    · obtain ⟨b, off, rfl, hbb, hc⟩ := (hr.below hb).row landmarkC_len (by decide) hlt
      have hc0 := hc 0 _ rfl
      have hc1 := hc 1 _ rfl
      simp only [Nat.add_zero] at hc0
      have HS := hide (show (zs.take (k + 1)).all (fun z => okP z.2) = okP zs[k].2 by rw [take_succ hlt, List.all_append, hn]; simp)
      have HT := hide (show okP zs[k].2 = false → placeB zs at_ = ⟨#[]⟩ from fun h => by
        rw [placeB, List.all_eq_false.2 ⟨_, List.getElem_mem hlt, by rw [h]; decide⟩, Bool.and_false]; rfl)
      have HP := hide (show ∀ p, inB p (-99999) 99999 = okP p from fun _ => rfl)
      clear hr hb hc hn ha hz
      generalize zs[k] = z at *
      go_wp2_with fail
      refine (l1In_any _ _ _ _).mono ?_
      rintro e w' ⟨rfl, rfl⟩
      rw [HP.out]
      cases h : okP z.2
      · have HT' := hide (HT.out h)
        clear HT HS h
        go_wp2_with fail
        go_ret
        exact ⟨by rw [HT'.out]; rfl, HB.out⟩
      · have HS' := hide (HS.out.trans h)
        clear HT HS h
        go_wp2_with fail
        refine ⟨⟨k + 1, by omega, by go_num, HS'.out, HB.out⟩, by simp [intOf]; omega⟩
    · have hall : zs.all (fun z => okP z.2) = true := by rw [← hn, List.take_of_length_le (by omega)]
      have HV := hide (show placeB zs at_ = textB at_ (bestL zs at_) by rw [placeB, ha, hall]; rfl)
      have hr1 := (hr.below hb).more hb.size
      clear hr hn hb
      go_wp2_with fail
      refine (landmarkBeforeS_any A zs c at_ _ hr1 (by unfold maxLen; omega)).mono ?_
      rintro e w2 ⟨rfl, b2⟩
      have HB2 := hide (HB.out.trans (b2.mono HB.out.size))
      clear b2 hr1 HB
      cases hb : bestL zs at_ with
      | none =>
        rw [hb] at HV
        clear hb hz hall ha
        unfold res
        simp only
        go_wp2_with fail
        refine (l8Number_any at_ _ (by omega) (by omega)).mono ?_
        rintro e w3 ⟨rfl, b3⟩
        have HB3 := hide ((HB2.out.alloc HB2.out.size _).trans (b3.mono (HB2.out.alloc HB2.out.size _).size))
        clear b3
        go_wp2_with fail
        go_ret
        exact ⟨by rw [HV.out]; rfl, HB3.out⟩
      | some z =>
        obtain ⟨hmem, hle⟩ := bestL_mem hb
        have hzs := hz z hmem
        have hzr := List.all_eq_true.1 hall z hmem
        simp only [okP, inB, decide_eq_true_eq] at hzr
        rw [hb] at HV
        clear hb hz hall ha hmem
        unfold res
        simp only
        by_cases he : z.2 = at_
        · have HV' := hide (HV.out.trans (show textB at_ (some z) = z.1 by rw [textB, if_pos he]))
          clear HV
          go_wp2_with fail
          go_ret
          exact ⟨by rw [HV'.out]; rfl, HB2.out.alloc HB2.out.size _⟩
        · have HV' := hide (HV.out.trans (show textB at_ (some z) = z.1 ++ (⟨#[43]⟩ : ByteArray) ++ (⟨(Lib.itoa (at_ - z.2)).toArray⟩ : ByteArray) by rw [textB, if_neg he]))
          have hlt : z.2 < at_ := by omega
          have hne : (z.2 == at_) = false := by simpa using he
          clear HV he
          have hn := Lib.itoa_length_le (at_ - z.2) (by omega) (by omega)
          have hwr : IntKind.i64.wrap (at_ - z.2) = at_ - z.2 := IntWalk.i64_in _ (by omega)
          have HQ := hide (fun V => l8Number_any (at_ - z.2) V (by omega) (by omega))
          generalize hy : Lib.itoa (at_ - z.2) = l at *
          clear hy
          have hs1 : ¬ 9223372036854775807 < z.1.size + 1 := by omega
          have hs2 : ¬ 9223372036854775807 < z.1.size + 1 + l.length := by omega
          go_wp2_with fail
          have X3 := Box.new w2 40 #[.string z.1, .int .i64 z.2]
          have HB3 := hide (HB2.out.alloc HB2.out.size (.cells #[.string z.1, .int .i64 z.2] 40))
          have hl3 : w2.heap.size < (w2.alloc (.cells #[.string z.1, .int .i64 z.2] 40)).heap.size := by simp
          generalize w2.alloc (.cells #[.string z.1, .int .i64 z.2] 40) = w3 at *
          refine Reg.startT (fun V => V.cell? ⟨w2.heap.size, 0, none⟩ = some (.string z.1) ∧ V.cell? ⟨w2.heap.size, 1, none⟩ = some (.int .i64 z.2)) (fun _ => false) (by kernel_rfl) ?_
          have hHeld : w3.drew.cell? ⟨w2.heap.size, 0, none⟩ = some (.string z.1) ∧ w3.drew.cell? ⟨w2.heap.size, 1, none⟩ = some (.int .i64 z.2) := ⟨X3.cell 0, X3.cell 1⟩
          refine Reg.takeT (i := 0) (v := ?_) rfl (by kernel_rfl) (by kernel_rfl) (by kernel_rfl) (by kernel_rfl) (fun _ _ _ h => h) (Or.inl ⟨by rfl, ?_⟩) (by assumption) ?_
          rotate_left 1
          focus (intro w hSw; (try dsimp only at hSw); go_simp; (try with_reducible rfl))
          try simp only [List.getElem_toArray, List.getElem_cons_succ, List.getElem_cons_zero, Act.put, List.setIfInBounds_toArray, List.set_cons_zero, List.set_cons_succ]
          refine Reg.takeT (i := 1) (v := ?_) rfl (by kernel_rfl) (by kernel_rfl) (by kernel_rfl) (by kernel_rfl) (fun _ _ _ h => h) (Or.inl ⟨by rfl, ?_⟩) (by assumption) ?_
          rotate_left 1
          focus (intro w hSw; (try dsimp only at hSw); go_simp; (try with_reducible rfl))
          try simp only [List.getElem_toArray, List.getElem_cons_succ, List.getElem_cons_zero, Act.put, List.setIfInBounds_toArray, List.set_cons_zero, List.set_cons_succ]
          refine Reg.takeT (i := 2) (v := ?_) rfl (by kernel_rfl) (by kernel_rfl) (by kernel_rfl) (by kernel_rfl) (fun _ _ _ h => h) (Or.inl ⟨by rfl, ?_⟩) (by assumption) ?_
          rotate_left 1
          focus (intro w hSw; (try dsimp only at hSw); go_simp; (try with_reducible rfl))
          try simp only [List.getElem_toArray, List.getElem_cons_succ, List.getElem_cons_zero, Act.put, List.setIfInBounds_toArray, List.set_cons_zero, List.set_cons_succ]
          refine Reg.takeT (i := 3) (v := ?_) rfl (by kernel_rfl) (by kernel_rfl) (by kernel_rfl) (by kernel_rfl) (fun _ _ _ h => h) (Or.inl ⟨by rfl, ?_⟩) (by assumption) ?_
          rotate_left 1
          focus (intro w hSw; (try dsimp only at hSw); go_simp; (try with_reducible rfl))
          try simp only [List.getElem_toArray, List.getElem_cons_succ, List.getElem_cons_zero, Act.put, List.setIfInBounds_toArray, List.set_cons_zero, List.set_cons_succ]
          refine Reg.takeT (i := 4) (v := ?_) rfl (by kernel_rfl) (by kernel_rfl) (by kernel_rfl) (by kernel_rfl) (fun _ _ _ h => h) (Or.inl ⟨by rfl, ?_⟩) (by assumption) ?_
          rotate_left 1
          focus (intro w hSw; (try dsimp only at hSw); go_simp; (try with_reducible rfl))
          try simp only [List.getElem_toArray, List.getElem_cons_succ, List.getElem_cons_zero, Act.put, List.setIfInBounds_toArray, List.set_cons_zero, List.set_cons_succ]
          refine Reg.takeT (i := 5) (v := ?_) rfl (by kernel_rfl) (by kernel_rfl) (by kernel_rfl) (by kernel_rfl) (fun _ _ _ h => h) (Or.inl ⟨by rfl, ?_⟩) (by assumption) ?_
          rotate_left 1
          focus (intro w hSw; (try dsimp only at hSw); go_simp; (try with_reducible rfl))
          try simp only [List.getElem_toArray, List.getElem_cons_succ, List.getElem_cons_zero, Act.put, List.setIfInBounds_toArray, List.set_cons_zero, List.set_cons_succ]
          refine Reg.takeT (i := 6) (v := ?_) rfl (by kernel_rfl) (by kernel_rfl) (by kernel_rfl) (by kernel_rfl) (fun _ _ _ h => h) (Or.inl ⟨by rfl, ?_⟩) (by assumption) ?_
          rotate_left 1
          focus (intro w hSw; (try dsimp only at hSw); go_simp; (try with_reducible rfl))
          try simp only [List.getElem_toArray, List.getElem_cons_succ, List.getElem_cons_zero, Act.put, List.setIfInBounds_toArray, List.set_cons_zero, List.set_cons_succ]
          refine Reg.oneT (i := 7) rfl (by kernel_rfl) (fun K hK => ?_)
          go_simp
          refine (HQ.out _).mono ?_
          rintro e w4 ⟨rfl, b4⟩
          have HB4 := hide (below_drawn b4)
          have X4 := X3.call HB4.out
          have hHeld : w4.cell? ⟨w2.heap.size, 0, none⟩ = some (.string z.1) ∧ w4.cell? ⟨w2.heap.size, 1, none⟩ = some (.int .i64 z.2) := ⟨X4.cell 0, X4.cell 1⟩
          have HBB := hide (HB3.out.trans (HB4.out.mono HB3.out.size))
          clear b4
          refine hK.out _ _ hHeld ?_
          clear hK K
          try simp only [List.getElem_toArray, List.getElem_cons_succ, List.getElem_cons_zero, Act.put, List.setIfInBounds_toArray, List.set_cons_zero, List.set_cons_succ]
          refine Reg.takeT (i := 8) (v := ?_) rfl (by kernel_rfl) (by kernel_rfl) (by kernel_rfl) (by kernel_rfl) (fun _ _ _ h => h) (Or.inl ⟨by rfl, ?_⟩) (by assumption) ?_
          rotate_left 1
          focus (intro w hSw; (try dsimp only at hSw); go_simp; (try with_reducible rfl))
          try simp only [List.getElem_toArray, List.getElem_cons_succ, List.getElem_cons_zero, Act.put, List.setIfInBounds_toArray, List.set_cons_zero, List.set_cons_succ]
          refine Reg.takeT (i := 9) (v := ?_) rfl (by kernel_rfl) (by kernel_rfl) (by kernel_rfl) (by kernel_rfl) (fun _ _ _ h => h) (Or.inl ⟨by rfl, ?_⟩) (by assumption) ?_
          rotate_left 1
          focus (intro w hSw; (try dsimp only at hSw); go_simp; (try with_reducible rfl))
          try simp only [List.getElem_toArray, List.getElem_cons_succ, List.getElem_cons_zero, Act.put, List.setIfInBounds_toArray, List.set_cons_zero, List.set_cons_succ]
          refine Reg.doneT (by kernel_rfl) ?_ _
          clear hHeld
          go_wp2_with fail
          go_ret
          exact ⟨by rw [HV'.out]; rfl, HBB.out⟩
end Go.Proofs.YtjnnjgogpapbhaaDoor.CPlaceTxt
