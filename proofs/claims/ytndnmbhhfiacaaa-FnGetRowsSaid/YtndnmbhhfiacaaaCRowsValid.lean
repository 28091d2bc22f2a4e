/- Contracts of RowsValid and LineOf, the program's and the reference's. -/
import Derived.Test.YtndnmbhhfiacaaaCRows
import Derived.Test.YtndnmbhhfiacaaaCCode
import Derived.Deep.QuietTactic
import Derived.BigQuiet
namespace Go.Proofs.Ytndnmbhhfiacaaa.CRowsValid
set_option maxRecDepth 200000
open Go.ChangeShapes Go.WideShapes Go.ChangeAt Go.RowKit Kit CCode CRows
/-- Row k of a list is right: its numbers are in range and it is behind the row before. -/
def rowOk (zs : List (Int × Int)) (k : Nat) : Bool :=
  match zs[k]? with
  | none => true
  | some z => inB z.1 0 60000 && inB z.2 1 9999 && (k == 0 || decide ((zs.getD (k - 1) (0, 0)).1 < z.1))
def rowsOk (zs : List (Int × Int)) : Bool := (List.range zs.length).all (rowOk zs) && decide (zs.length ≤ 12)
theorem rowsOk_no {zs : List (Int × Int)} {k : Nat} (hk : k < zs.length) (h : rowOk zs k = false) : rowsOk zs = false := by
  unfold rowsOk
  rw [Bool.and_eq_false_iff, List.all_eq_false]
  exact .inl ⟨k, by simpa using hk, by simp [h]⟩
theorem rowOk_more {zs : List (Int × Int)} {k : Nat} (h : ∀ j, j < k → rowOk zs j = true) (hk : rowOk zs k = true) : ∀ j, j < k + 1 → rowOk zs j = true := fun j hj => by
  by_cases e : j = k
  · rw [e]; exact hk
  · exact h j (by omega)
theorem rowsOk_all {zs : List (Int × Int)} (h : ∀ j, j < zs.length → rowOk zs j = true) : rowsOk zs = decide (zs.length ≤ 12) := by
  unfold rowsOk
  rw [List.all_eq_true.2 (fun j hj => h j (by simpa using hj)), Bool.true_and]
theorem rowsValid_any (A : Option Addr) (zs : List (Int × Int)) (c : Nat) (w : World) (hr : Rd w w.heap.size A (cellsOf rowC zs)) (hm : zs.length ≤ maxLen) :
    Calls Try.prog 30 #[.slice A zs.length c] w (Ret (.bool (rowsOk zs)) w) := by
  unfold maxLen at hm
  go_enter Try.func30, Try.ntmps30
  go_wp2
  go_loopw [7] (fun i wr => ∃ k : Nat, k ≤ zs.length ∧ i = .int .i64 k ∧ (∀ j, j < k → rowOk zs j = true) ∧ Below w.heap.size w wr) (fun i _ => zs.length - (intOf i).toNat)
  case atStart => exact ⟨0, Nat.zero_le _, rfl, fun j hj => by omega, Below.refl _ _⟩
  case round =>
    obtain ⟨k, hk, rfl, hall, hb⟩ := hrel
    have HA := hide hall
    have HB := hide hb
    have hall' := hall
    clear hall
    by_cases hlt : k < zs.length
    · obtain ⟨b, off, rfl, _, hc⟩ := (hr.below hb).row rowC_len (by decide) hlt
      have hc0 := hc 0 _ rfl
      have hc1 := hc 1 _ rfl
      simp only [Nat.add_zero] at hc0
      have HN := hide (show rowOk zs k = false → rowsOk zs = false from rowsOk_no hlt)
      have HS := hide (show rowOk zs k = true → ∀ j, j < k + 1 → rowOk zs j = true from rowOk_more hall')
      have hok : rowOk zs k = (inB zs[k].1 0 60000 && inB zs[k].2 1 9999 && (k == 0 || decide ((zs.getD (k - 1) (0, 0)).1 < zs[k].1))) := by
        unfold rowOk; rw [List.getElem?_eq_getElem hlt]
      have HK := hide hok
      clear hok hall'
      by_cases h1 : inB zs[k].1 0 60000 = true
      · by_cases h2 : inB zs[k].2 1 9999 = true
        · by_cases h3 : k = 0
          · have HT := hide (HS.out (by rw [HK.out, h1, h2]; simp [h3]))
            clear hr hb hc HN HS HK
            generalize zs[k] = z at *
            subst h3
            simp only [Nat.zero_mul, Nat.add_zero] at hc0 hc1
            go_wp2_with fail
            go_quiet ((first | (go_at_call 109; exact Pure.quiet (within_any _ _ _ _)) | (go_at_call 110; exact Pure.quiet (l1In_any _ _ _ _)) | fail))
            go_wp2_with fail
            refine ⟨⟨0 + 1, by omega, by go_num, HT.out, ?_⟩, by simp [intOf]; omega⟩
            exact Below.drewN (HB.out.alloc HB.out.size _) _
          · obtain ⟨m, rfl⟩ : ∃ m, k = m + 1 := ⟨k - 1, by omega⟩
            have hp : m < zs.length := by omega
            have hpd : zs.getD (m + 1 - 1) (0, 0) = zs[m] := by rw [Nat.add_sub_cancel, List.getD_eq_getElem?_getD, List.getElem?_eq_getElem hp]; rfl
            obtain ⟨b', off', e', hbb, hd⟩ := (hr.below hb).row rowC_len (by decide) hp
            simp only [Option.some.injEq, Addr.mk.injEq, and_true] at e'
            obtain ⟨rfl, rfl⟩ := e'
            have hd0 := hd 0 _ rfl
            simp only [Nat.add_zero] at hd0
            rw [hpd] at HK
            have hbw : b < wr.heap.size := Nat.lt_of_lt_of_le hbb HB.out.size
            by_cases h4 : zs[m].1 < zs[m + 1].1
            · have HT := hide (HS.out (by rw [HK.out, h1, h2]; simp [h4]))
              clear hr hb hc hd HN HS HK h3 hpd
              generalize zs[m + 1] = z at *
              generalize zs[m] = y at *
              have f1 : IntKind.i64.wrap (m : Int) = (m : Int) := IntWalk.i64_in _ (by omega)
              go_wp2_with fail
              go_quiet ((first | (go_at_call 109; exact Pure.quiet (within_any _ _ _ _)) | (go_at_call 110; exact Pure.quiet (l1In_any _ _ _ _)) | fail))
              go_wp2_with fail
              refine ⟨⟨m + 1 + 1, by omega, by go_num, HT.out, ?_⟩, by simp [intOf]; omega⟩
              exact Below.drewN (HB.out.alloc HB.out.size _) _
            · have HT := hide (HN.out (by rw [HK.out, h1, h2]; simp [h4, h3]))
              clear hr hb hc hd HN HS HK h3 hpd
              generalize zs[m + 1] = z at *
              generalize zs[m] = y at *
              have f1 : IntKind.i64.wrap (m : Int) = (m : Int) := IntWalk.i64_in _ (by omega)
              go_wp2_with fail
              go_quiet ((first | (go_at_call 109; exact Pure.quiet (within_any _ _ _ _)) | (go_at_call 110; exact Pure.quiet (l1In_any _ _ _ _)) | fail))
              go_wp2_with fail
              go_ret
              exact ⟨ret_bool HT.out.symm, Below.drewN (HB.out.alloc HB.out.size _) _⟩
        · have h2' : inB zs[k].2 1 9999 = false := by simpa using h2
          have HT := hide (HN.out (by rw [HK.out, h2']; simp))
          clear hr hb hc HN HS HK h2
          generalize zs[k] = z at *
          go_wp2_with fail
          go_quiet ((first | (go_at_call 109; exact Pure.quiet (within_any _ _ _ _)) | (go_at_call 110; exact Pure.quiet (l1In_any _ _ _ _)) | fail))
          go_wp2_with fail
          go_ret
          exact ⟨ret_bool HT.out.symm, Below.drewN (HB.out.alloc HB.out.size _) _⟩
      · have h1' : inB zs[k].1 0 60000 = false := by simpa using h1
        have HT := hide (HN.out (by rw [HK.out, h1']; simp))
        clear hr hb hc HN HS HK h1
        generalize zs[k] = z at *
        go_wp2_with fail
        go_quiet ((first | (go_at_call 109; exact Pure.quiet (within_any _ _ _ _)) | (go_at_call 110; exact Pure.quiet (l1In_any _ _ _ _)) | fail))
        go_wp2_with fail
        go_ret
        exact ⟨ret_bool HT.out.symm, Below.drewN (HB.out.alloc HB.out.size _) _⟩
    · have e : k = zs.length := by omega
      subst e
      have HF := hide (rowsOk_all hall')
      clear hr hb hall' HA
      go_wp2_with fail
      go_ret
      exact ⟨ret_bool (by rw [HF.out]; simp <;> omega), HB.out⟩
theorem rowsValidS_any (A : Option Addr) (zs : List (Int × Int)) (c : Nat) (w : World) (hr : Rd w w.heap.size A (cellsOf rowC zs)) (hm : zs.length ≤ maxLen) :
    Calls Try.prog 31 #[.slice A zs.length c] w (Ret (.bool (rowsOk zs)) w) := by
  unfold maxLen at hm
  go_enter Try.func31, Try.ntmps31
  go_wp2
  go_loopw [3] (fun i wr => ∃ k : Nat, k ≤ zs.length ∧ i = .int .i64 k ∧ (∀ j, j < k → rowOk zs j = true) ∧ Below w.heap.size w wr) (fun i _ => zs.length - (intOf i).toNat)
  case atStart => exact ⟨0, Nat.zero_le _, rfl, fun j hj => by omega, Below.refl _ _⟩
  case round =>
    obtain ⟨k, hk, rfl, hall, hb⟩ := hrel
    have HA := hide hall
    have HB := hide hb
    have hall' := hall
    clear hall
    by_cases hlt : k < zs.length
    · obtain ⟨b, off, rfl, _, hc⟩ := (hr.below hb).row rowC_len (by decide) hlt
      have hc0 := hc 0 _ rfl
      have hc1 := hc 1 _ rfl
      simp only [Nat.add_zero] at hc0
      have HN := hide (show rowOk zs k = false → rowsOk zs = false from rowsOk_no hlt)
      have HS := hide (show rowOk zs k = true → ∀ j, j < k + 1 → rowOk zs j = true from rowOk_more hall')
      have hok : rowOk zs k = (inB zs[k].1 0 60000 && inB zs[k].2 1 9999 && (k == 0 || decide ((zs.getD (k - 1) (0, 0)).1 < zs[k].1))) := by
        unfold rowOk; rw [List.getElem?_eq_getElem hlt]
      have HK := hide hok
      clear hok hall'
      by_cases h1 : inB zs[k].1 0 60000 = true
      · by_cases h2 : inB zs[k].2 1 9999 = true
        · by_cases h3 : k = 0
          · have HT := hide (HS.out (by rw [HK.out, h1, h2]; simp [h3]))
            clear hr hb hc HN HS HK
            generalize zs[k] = z at *
            subst h3
            simp only [Nat.zero_mul, Nat.add_zero] at hc0 hc1
            go_wp2_with fail
            go_quiet ((first | (go_at_call 109; exact Pure.quiet (within_any _ _ _ _)) | (go_at_call 110; exact Pure.quiet (l1In_any _ _ _ _)) | fail))
            go_wp2_with fail
            refine ⟨⟨0 + 1, by omega, by go_num, HT.out, ?_⟩, by simp [intOf]; omega⟩
            exact Below.drewN HB.out _
          · obtain ⟨m, rfl⟩ : ∃ m, k = m + 1 := ⟨k - 1, by omega⟩
            have hp : m < zs.length := by omega
            have hpd : zs.getD (m + 1 - 1) (0, 0) = zs[m] := by rw [Nat.add_sub_cancel, List.getD_eq_getElem?_getD, List.getElem?_eq_getElem hp]; rfl
            obtain ⟨b', off', e', hbb, hd⟩ := (hr.below hb).row rowC_len (by decide) hp
            simp only [Option.some.injEq, Addr.mk.injEq, and_true] at e'
            obtain ⟨rfl, rfl⟩ := e'
            have hd0 := hd 0 _ rfl
            simp only [Nat.add_zero] at hd0
            rw [hpd] at HK
            by_cases h4 : zs[m].1 < zs[m + 1].1
            · have HT := hide (HS.out (by rw [HK.out, h1, h2]; simp [h4]))
              clear hr hb hc hd HN HS HK h3 hpd
              generalize zs[m + 1] = z at *
              generalize zs[m] = y at *
              have f1 : IntKind.i64.wrap (m : Int) = (m : Int) := IntWalk.i64_in _ (by omega)
              go_wp2_with fail
              go_quiet ((first | (go_at_call 109; exact Pure.quiet (within_any _ _ _ _)) | (go_at_call 110; exact Pure.quiet (l1In_any _ _ _ _)) | fail))
              go_wp2_with fail
              refine ⟨⟨m + 1 + 1, by omega, by go_num, HT.out, ?_⟩, by simp [intOf]; omega⟩
              exact Below.drewN HB.out _
            · have HT := hide (HN.out (by rw [HK.out, h1, h2]; simp [h4, h3]))
              clear hr hb hc hd HN HS HK h3 hpd
              generalize zs[m + 1] = z at *
              generalize zs[m] = y at *
              have f1 : IntKind.i64.wrap (m : Int) = (m : Int) := IntWalk.i64_in _ (by omega)
              go_wp2_with fail
              go_quiet ((first | (go_at_call 109; exact Pure.quiet (within_any _ _ _ _)) | (go_at_call 110; exact Pure.quiet (l1In_any _ _ _ _)) | fail))
              go_wp2_with fail
              go_ret
              exact ⟨ret_bool HT.out.symm, Below.drewN HB.out _⟩
        · have h2' : inB zs[k].2 1 9999 = false := by simpa using h2
          have HT := hide (HN.out (by rw [HK.out, h2']; simp))
          clear hr hb hc HN HS HK h2
          generalize zs[k] = z at *
          go_wp2_with fail
          go_quiet ((first | (go_at_call 109; exact Pure.quiet (within_any _ _ _ _)) | (go_at_call 110; exact Pure.quiet (l1In_any _ _ _ _)) | fail))
          go_wp2_with fail
          go_ret
          exact ⟨ret_bool HT.out.symm, Below.drewN HB.out _⟩
      · have h1' : inB zs[k].1 0 60000 = false := by simpa using h1
        have HT := hide (HN.out (by rw [HK.out, h1']; simp))
        clear hr hb hc HN HS HK h1
        generalize zs[k] = z at *
        go_wp2_with fail
        go_quiet ((first | (go_at_call 109; exact Pure.quiet (within_any _ _ _ _)) | (go_at_call 110; exact Pure.quiet (l1In_any _ _ _ _)) | fail))
        go_wp2_with fail
        go_ret
        exact ⟨ret_bool HT.out.symm, Below.drewN HB.out _⟩
    · have e : k = zs.length := by omega
      subst e
      have HF := hide (rowsOk_all hall')
      clear hr hb hall' HA
      go_wp2_with fail
      go_ret
      exact ⟨ret_bool (by rw [HF.out]; simp <;> omega), HB.out⟩
def lineAt (zs : List (Int × Int)) (at_ : Int) : Int := zs.foldl (fun l r => if r.1 ≤ at_ then r.2 else l) 0
theorem lineAt_snoc (zs : List (Int × Int)) (r : Int × Int) (at_ : Int) : lineAt (zs ++ [r]) at_ = if r.1 ≤ at_ then r.2 else lineAt zs at_ := by simp [lineAt]
def lineOf (zs : List (Int × Int)) (at_ : Int) : Int := if rowsOk zs then lineAt zs at_ else 0
theorem lineOf_any (A : Option Addr) (zs : List (Int × Int)) (c : Nat) (at_ : Int) (w : World) (hr : Rd w w.heap.size A (cellsOf rowC zs)) (hm : zs.length ≤ maxLen) :
    Calls Try.prog 45 #[.slice A zs.length c, .int .i64 at_] w (Ret (.int .i64 (lineOf zs at_)) w) := by
  have hm' := hm
  unfold maxLen at hm
  cases hv : rowsOk zs
  · have HF := hide (show lineOf zs at_ = 0 by rw [lineOf, hv]; rfl)
    go_enter Try.func45, Try.ntmps45
    go_wp2_with fail
    refine (rowsValid_any A zs c w hr hm').mono ?_
    rintro e w1 ⟨rfl, hb1⟩
    rw [hv]
    go_wp2_with fail
    go_ret
    exact ⟨ret_int HF.out.symm, hb1⟩
  · have HF := hide (show lineOf zs at_ = lineAt zs at_ by rw [lineOf, hv]; rfl)
    go_enter Try.func45, Try.ntmps45
    go_wp2_with fail
    refine (rowsValid_any A zs c w hr hm').mono ?_
    rintro e w1 ⟨rfl, hb1⟩
    rw [hv]
    clear hv hm'
    go_wp2_with fail
    go_loopw [5, 14] (fun l i wr => ∃ k : Nat, k ≤ zs.length ∧ i = .int .i64 k ∧ l = .int .i64 (lineAt (zs.take k) at_) ∧ Below w.heap.size w wr) (fun _ i _ => zs.length - (intOf i).toNat)
    case atStart => exact ⟨0, Nat.zero_le _, rfl, rfl, hb1⟩
    case round =>
      obtain ⟨k, hk, rfl, rfl, hb⟩ := hrel
      have HB := hide hb
      clear hb1
      by_cases hlt : k < zs.length
      · obtain ⟨b, off, rfl, _, hc⟩ := (hr.below hb).row rowC_len (by decide) hlt
        have hc0 := hc 0 _ rfl
        have hc1 := hc 1 _ rfl
        simp only [Nat.add_zero] at hc0
        have HT := hide (show lineAt (zs.take (k + 1)) at_ = if zs[k].1 ≤ at_ then zs[k].2 else lineAt (zs.take k) at_ by rw [take_succ hlt, lineAt_snoc])
        clear hr hb hc
        by_cases hle : zs[k].1 ≤ at_
        · have HT' := hide (HT.out.trans (if_pos hle))
          clear HT
          generalize zs[k] = z at *
          go_wp2_with fail
          refine ⟨⟨k + 1, by omega, by go_num, by rw [HT'.out], HB.out.alloc HB.out.size _⟩, by simp [intOf]; omega⟩
        · have HT' := hide (HT.out.trans (if_neg hle))
          clear HT
          generalize zs[k] = z at *
          go_wp2_with fail
          refine ⟨⟨k + 1, by omega, by go_num, by rw [HT'.out], HB.out.alloc HB.out.size _⟩, by simp [intOf]; omega⟩
      · have e : zs.take k = zs := List.take_of_length_le (by omega)
        rw [e]
        clear hr hb e
        go_wp2_with fail
        go_ret
        exact ⟨ret_int HF.out.symm, HB.out⟩
theorem lineOfS_any (A : Option Addr) (zs : List (Int × Int)) (c : Nat) (at_ : Int) (w : World) (hr : Rd w w.heap.size A (cellsOf rowC zs)) (hm : zs.length ≤ maxLen) :
    Calls Try.prog 46 #[.slice A zs.length c, .int .i64 at_] w (Ret (.int .i64 (lineOf zs at_)) w) := by
  have hm' := hm
  unfold maxLen at hm
  cases hv : rowsOk zs
  · have HF := hide (show lineOf zs at_ = 0 by rw [lineOf, hv]; rfl)
    go_enter Try.func46, Try.ntmps46
    go_wp2_with fail
    refine wp_loop_once ?_
    by_cases hlt : 0 < zs.length
    · go_wp2_with fail
      refine (rowsValidS_any A zs c _ hr hm').mono ?_
      rintro e w1 ⟨rfl, hb1⟩
      rw [hv]
      clear hv hm'
      go_wp2_with fail
      go_ret
      exact ⟨ret_int HF.out.symm, hb1⟩
    · clear hv hm'
      go_wp2_with fail
      go_ret
      exact ⟨ret_int HF.out.symm, Below.refl _ _⟩
  · have HF := hide (show lineOf zs at_ = lineAt zs at_ by rw [lineOf, hv]; rfl)
    have HV := hide hv
    have HM := hide hm'
    go_enter Try.func46, Try.ntmps46
    go_wp2_with fail
    clear hv hm'
    go_loopw [5, 6] (fun l i wr => ∃ k : Nat, k ≤ zs.length ∧ i = .int .i64 k ∧ l = .int .i64 (lineAt (zs.take k) at_) ∧ Below w.heap.size w wr) (fun _ i _ => zs.length - (intOf i).toNat)
    case atStart => exact ⟨0, Nat.zero_le _, rfl, rfl, Below.refl _ _⟩
    case round =>
      obtain ⟨k, hk, rfl, rfl, hb⟩ := hrel
      by_cases hlt : k < zs.length
      · have HB := hide hb
        have HR := hide hr
        have HT := hide (show lineAt (zs.take (k + 1)) at_ = if zs[k].1 ≤ at_ then zs[k].2 else lineAt (zs.take k) at_ by rw [take_succ hlt, lineAt_snoc])
        clear hr hb
        go_wp2_with fail
        refine (rowsValidS_any A zs c _ ((HR.out.below HB.out).more HB.out.size) HM.out).mono ?_
        rintro e w1 ⟨rfl, hb1⟩
        rw [HV.out]
        have hb := HB.out.trans (hb1.mono HB.out.size)
        have HB' := hide hb
        obtain ⟨b, off, rfl, _, hc⟩ := (HR.out.below hb).row rowC_len (by decide) hlt
        have hc0 := hc 0 _ rfl
        have hc1 := hc 1 _ rfl
        simp only [Nat.add_zero] at hc0
        clear hc hb hb1
        by_cases hle : zs[k].1 ≤ at_
        · have HT' := hide (HT.out.trans (if_pos hle))
          clear HT
          generalize zs[k] = z at *
          go_wp2_with fail
          refine ⟨⟨k + 1, by omega, by go_num, by rw [HT'.out], HB'.out⟩, by simp [intOf]; omega⟩
        · have HT' := hide (HT.out.trans (if_neg hle))
          clear HT
          generalize zs[k] = z at *
          go_wp2_with fail
          refine ⟨⟨k + 1, by omega, by go_num, by rw [HT'.out], HB'.out⟩, by simp [intOf]; omega⟩
      · have e : zs.take k = zs := List.take_of_length_le (by omega)
        rw [e]
        clear hr e
        have HB := hide hb
        clear hb
        go_wp2_with fail
        go_ret
        exact ⟨ret_int HF.out.symm, HB.out⟩
end Go.Proofs.Ytndnmbhhfiacaaa.CRowsValid
