/- Contracts of FramesValid and FrameOf, the program's and the reference's. -/
import Derived.Test.YtndnmbhhfiacaaaCFrames
import Derived.Test.YtndnmbhhfiacaaaCCode
import Derived.Deep.QuietTactic
import Derived.BigQuiet
namespace Go.Proofs.Ytndnmbhhfiacaaa.CFramesValid
set_option maxRecDepth 200000
open Go.ChangeShapes Go.WideShapes Go.ChangeAt Go.RowKit Kit CCode CFrames
/-- Where the frame before frame k ends. -/
def endF (zs : List D) (k : Nat) : Int := if k = 0 then 0 else (zs.getD (k - 1) (0, 0, 0)).2.1
theorem endF_succ {zs : List D} {k : Nat} (h : k < zs.length) : endF zs (k + 1) = zs[k].2.1 := by
  unfold endF
  rw [if_neg (by omega), Nat.add_sub_cancel, List.getD_eq_getElem?_getD, List.getElem?_eq_getElem h]
  rfl
def okF (e : Int) (z : D) : Bool := decide (e ≤ z.1 ∧ z.1 < z.2.1 ∧ z.2.1 ≤ 60000 ∧ 0 ≤ z.2.2 ∧ z.2.2 ≤ 40)
def frameOk (zs : List D) (k : Nat) : Bool :=
  match zs[k]? with
  | none => true
  | some z => okF (endF zs k) z
def framesOk (zs : List D) : Bool := (List.range zs.length).all (frameOk zs) && decide (zs.length ≤ 8)
theorem frameOk_at {zs : List D} {k : Nat} (h : k < zs.length) : frameOk zs k = okF (endF zs k) zs[k] := by
  unfold frameOk; rw [List.getElem?_eq_getElem h]
theorem end_nonneg {zs : List D} : ∀ {k : Nat}, k ≤ zs.length → (∀ j, j < k → frameOk zs j = true) → 0 ≤ endF zs k
  | 0, _, _ => by simp [endF]
  | k + 1, hk, h => by
    have h1 := h k (by omega)
    have h2 := end_nonneg (k := k) (by omega) fun j hj => h j (by omega)
    rw [frameOk_at (by omega)] at h1
    rw [endF_succ (by omega)]
    simp only [okF, decide_eq_true_eq] at h1
    omega
theorem framesOk_no {zs : List D} {k : Nat} (hk : k < zs.length) (h : frameOk zs k = false) : framesOk zs = false := by
  unfold framesOk
  rw [Bool.and_eq_false_iff, List.all_eq_false]
  exact .inl ⟨k, by simpa using hk, by simp [h]⟩
theorem frameOk_more {zs : List D} {k : Nat} (h : ∀ j, j < k → frameOk zs j = true) (hk : frameOk zs k = true) : ∀ j, j < k + 1 → frameOk zs j = true := fun j hj => by
  by_cases e : j = k
  · rw [e]; exact hk
  · exact h j (by omega)
theorem framesOk_all {zs : List D} (h : ∀ j, j < zs.length → frameOk zs j = true) : framesOk zs = decide (zs.length ≤ 8) := by
  unfold framesOk
  rw [List.all_eq_true.2 (fun j hj => h j (by simpa using hj)), Bool.true_and]
theorem framesValid_any (A : Option Addr) (zs : List D) (c : Nat) (w : World) (hr : Rd w w.heap.size A (cellsOf frameC zs)) (hm : zs.length ≤ maxLen) :
    Calls Try.prog 33 #[.slice A zs.length c] w (Ret (.bool (framesOk zs)) w) := by
  unfold maxLen at hm
  go_enter Try.func33, Try.ntmps33
  go_wp2
  go_loopw [3, 8] (fun e i wr => ∃ k : Nat, k ≤ zs.length ∧ i = .int .i64 k ∧ e = .int .i64 (endF zs k) ∧ (∀ j, j < k → frameOk zs j = true) ∧ Below w.heap.size w wr) (fun _ i _ => zs.length - (intOf i).toNat)
  case atStart => exact ⟨0, Nat.zero_le _, rfl, rfl, fun j hj => by omega, Below.refl _ _⟩
  case round =>
    obtain ⟨k, hk, rfl, rfl, hall, hb⟩ := hrel
    have HB := hide hb
    have he := end_nonneg hk hall
    by_cases hlt : k < zs.length
    · obtain ⟨b, off, rfl, _, hc⟩ := (hr.below hb).row frameC_len (by decide) hlt
      have hc0 := hc 0 _ rfl
      have hc1 := hc 1 _ rfl
      have hc2 := hc 2 _ rfl
      simp only [Nat.add_zero] at hc0
      have HN := hide (show okF (endF zs k) zs[k] = false → framesOk zs = false from fun h => framesOk_no hlt ((frameOk_at hlt).trans h))
      have HS := hide (show okF (endF zs k) zs[k] = true → ∀ j, j < k + 1 → frameOk zs j = true from fun h => frameOk_more hall ((frameOk_at hlt).trans h))
      have HE := hide (endF_succ hlt)
      clear hall hr hb hc
      generalize zs[k] = z at *
      generalize endF zs k = e0 at *
      by_cases h1 : e0 ≤ z.1 ∧ z.1 ≤ 60000
      · have g1 := inB_t h1
        obtain ⟨h1a, h1b⟩ := h1
        by_cases h2 : z.1 + 1 ≤ z.2.1 ∧ z.2.1 ≤ 60000
        · have g2 := inB_t h2
          by_cases h3 : 0 ≤ z.2.2 ∧ z.2.2 ≤ 40
          · have g3 := inB_t h3
            have HT := hide (HS.out (by simp only [okF, decide_eq_true_eq]; omega))
            clear HN HS h2 h3
            go_wp2_with (first | (go_at_call 109; refine (within_any _ _ _ _).mono ?_; rintro e w' ⟨rfl, rfl⟩) | (go_at_call 128; refine (hasArg_any _ _).mono ?_; rintro e w' ⟨rfl, rfl⟩) | (go_at_call 110; refine (l1In_any _ _ _ _).mono ?_; rintro e w' ⟨rfl, rfl⟩) | (go_at_call 129; refine (l29Has_any _ _).mono ?_; rintro e w' ⟨rfl, rfl⟩) | fail)
            refine ⟨⟨k + 1, by omega, by go_num, by rw [HE.out], HT.out, HB.out.alloc HB.out.size _⟩, by simp [intOf]; omega⟩
          · have g3 := inB_f h3
            have HT := hide (HN.out (by simp only [okF, decide_eq_false_iff_not]; omega))
            clear HN HS h2 h3
            go_wp2_with (first | (go_at_call 109; refine (within_any _ _ _ _).mono ?_; rintro e w' ⟨rfl, rfl⟩) | (go_at_call 128; refine (hasArg_any _ _).mono ?_; rintro e w' ⟨rfl, rfl⟩) | (go_at_call 110; refine (l1In_any _ _ _ _).mono ?_; rintro e w' ⟨rfl, rfl⟩) | (go_at_call 129; refine (l29Has_any _ _).mono ?_; rintro e w' ⟨rfl, rfl⟩) | fail)
            go_ret
            exact ⟨ret_bool HT.out.symm, HB.out.alloc HB.out.size _⟩
        · have g2 := inB_f h2
          have HT := hide (HN.out (by simp only [okF, decide_eq_false_iff_not]; omega))
          clear HN HS h2
          go_wp2_with (first | (go_at_call 109; refine (within_any _ _ _ _).mono ?_; rintro e w' ⟨rfl, rfl⟩) | (go_at_call 128; refine (hasArg_any _ _).mono ?_; rintro e w' ⟨rfl, rfl⟩) | (go_at_call 110; refine (l1In_any _ _ _ _).mono ?_; rintro e w' ⟨rfl, rfl⟩) | (go_at_call 129; refine (l29Has_any _ _).mono ?_; rintro e w' ⟨rfl, rfl⟩) | fail)
          go_ret
          exact ⟨ret_bool HT.out.symm, HB.out.alloc HB.out.size _⟩
      · have g1 := inB_f h1
        have HT := hide (HN.out (by simp only [okF, decide_eq_false_iff_not]; omega))
        clear HN HS h1
        go_wp2_with (first | (go_at_call 109; refine (within_any _ _ _ _).mono ?_; rintro e w' ⟨rfl, rfl⟩) | (go_at_call 128; refine (hasArg_any _ _).mono ?_; rintro e w' ⟨rfl, rfl⟩) | (go_at_call 110; refine (l1In_any _ _ _ _).mono ?_; rintro e w' ⟨rfl, rfl⟩) | (go_at_call 129; refine (l29Has_any _ _).mono ?_; rintro e w' ⟨rfl, rfl⟩) | fail)
        go_ret
        exact ⟨ret_bool HT.out.symm, HB.out.alloc HB.out.size _⟩
    · have e : k = zs.length := by omega
      subst e
      have HF := hide (framesOk_all hall)
      clear hr hb hall
      go_wp2_with fail
      go_ret
      exact ⟨ret_bool (by rw [HF.out]; simp <;> omega), HB.out⟩
theorem framesValidS_any (A : Option Addr) (zs : List D) (c : Nat) (w : World) (hr : Rd w w.heap.size A (cellsOf frameC zs)) (hm : zs.length ≤ maxLen) :
    Calls Try.prog 34 #[.slice A zs.length c] w (Ret (.bool (framesOk zs)) w) := by
  unfold maxLen at hm
  go_enter Try.func34, Try.ntmps34
  go_wp2
  go_loopw [3] (fun i wr => ∃ k : Nat, k ≤ zs.length ∧ i = .int .i64 k ∧ (∀ j, j < k → frameOk zs j = true) ∧ Below w.heap.size w wr) (fun i _ => zs.length - (intOf i).toNat)
  case atStart => exact ⟨0, Nat.zero_le _, rfl, fun j hj => by omega, Below.refl _ _⟩
  case round =>
    obtain ⟨k, hk, rfl, hall, hb⟩ := hrel
    have HB := hide hb
    have he := end_nonneg hk hall
    by_cases hlt : k < zs.length
    · obtain ⟨b, off, rfl, _, hc⟩ := (hr.below hb).row frameC_len (by decide) hlt
      have hc0 := hc 0 _ rfl
      have hc1 := hc 1 _ rfl
      have hc2 := hc 2 _ rfl
      simp only [Nat.add_zero] at hc0
      have HN := hide (show okF (endF zs k) zs[k] = false → framesOk zs = false from fun h => framesOk_no hlt ((frameOk_at hlt).trans h))
      have HS := hide (show okF (endF zs k) zs[k] = true → ∀ j, j < k + 1 → frameOk zs j = true from fun h => frameOk_more hall ((frameOk_at hlt).trans h))
      clear hall hc
      by_cases h1 : 1 ≤ zs[k].2.1 ∧ zs[k].2.1 ≤ 60000
      · have g1 := inB_t h1
        have f2 : IntKind.i64.wrap (zs[k].2.1 - 1) = zs[k].2.1 - 1 := IntWalk.i64_in _ (by omega)
        by_cases h2 : 0 ≤ zs[k].1 ∧ zs[k].1 ≤ zs[k].2.1 - 1
        · have g2 := inB_t h2
          by_cases h3 : 0 ≤ zs[k].2.2 ∧ zs[k].2.2 ≤ 40
          · have g3 := inB_t h3
            by_cases hk0 : k = 0
            · subst hk0
              have HT := hide (HS.out (by simp only [okF, endF, decide_eq_true_eq]; simp only [if_true]; omega))
              clear HN HS h1 h2 h3 hr hb
              simp only [Nat.zero_mul, Nat.add_zero] at hc0 hc1 hc2
              generalize zs[0] = z at *
              go_wp2_with fail
              go_quiet ((first | (go_at_call 109; exact Pure.quiet (within_any _ _ _ _)) | (go_at_call 110; exact Pure.quiet (l1In_any _ _ _ _)) | fail))
              go_wp2_with fail
              refine ⟨⟨0 + 1, by omega, by go_num, HT.out, Below.drewN HB.out _⟩, by simp [intOf]; omega⟩
            · obtain ⟨m, rfl⟩ : ∃ m, k = m + 1 := ⟨k - 1, by omega⟩
              have hp : m < zs.length := by omega
              have HE := hide (endF_succ hp)
              obtain ⟨b', off', e', hbb, hd⟩ := (hr.below hb).row frameC_len (by decide) hp
              simp only [Option.some.injEq, Addr.mk.injEq, and_true] at e'
              obtain ⟨rfl, rfl⟩ := e'
              have hd1 := hd 1 _ rfl
              by_cases h4 : zs[m + 1].1 < zs[m].2.1
              · have HT := hide (HN.out (by simp only [okF, decide_eq_false_iff_not]; rw [HE.out]; omega))
                clear HN HS HE h1 h2 h3 hr hb he hk0 hd
                generalize zs[m + 1] = z at *
                generalize zs[m] = y at *
                have f1 : IntKind.i64.wrap (m : Int) = (m : Int) := IntWalk.i64_in _ (by omega)
                go_wp2_with fail
                go_quiet ((first | (go_at_call 109; exact Pure.quiet (within_any _ _ _ _)) | (go_at_call 110; exact Pure.quiet (l1In_any _ _ _ _)) | fail))
                go_wp2_with fail
                go_ret
                exact ⟨ret_bool HT.out.symm, Below.drewN HB.out _⟩
              · have HT := hide (HS.out (by simp only [okF, decide_eq_true_eq]; rw [HE.out]; omega))
                clear HN HS HE h1 h2 h3 hr hb he hk0 hd
                generalize zs[m + 1] = z at *
                generalize zs[m] = y at *
                have f1 : IntKind.i64.wrap (m : Int) = (m : Int) := IntWalk.i64_in _ (by omega)
                go_wp2_with fail
                go_quiet ((first | (go_at_call 109; exact Pure.quiet (within_any _ _ _ _)) | (go_at_call 110; exact Pure.quiet (l1In_any _ _ _ _)) | fail))
                go_wp2_with fail
                refine ⟨⟨m + 1 + 1, by omega, by go_num, HT.out, Below.drewN HB.out _⟩, by simp [intOf]; omega⟩
          · have g3 := inB_f h3
            have HT := hide (HN.out (by simp only [okF, decide_eq_false_iff_not]; omega))
            clear HN HS h1 h2 h3 hr hb he
            generalize zs[k] = z at *
            go_wp2_with fail
            go_quiet ((first | (go_at_call 109; exact Pure.quiet (within_any _ _ _ _)) | (go_at_call 110; exact Pure.quiet (l1In_any _ _ _ _)) | fail))
            go_wp2_with fail
            go_ret
            exact ⟨ret_bool HT.out.symm, Below.drewN HB.out _⟩
        · have g2 := inB_f h2
          have HT := hide (HN.out (by simp only [okF, decide_eq_false_iff_not]; omega))
          clear HN HS h1 h2 hr hb he
          generalize zs[k] = z at *
          go_wp2_with fail
          go_quiet ((first | (go_at_call 109; exact Pure.quiet (within_any _ _ _ _)) | (go_at_call 110; exact Pure.quiet (l1In_any _ _ _ _)) | fail))
          go_wp2_with fail
          go_ret
          exact ⟨ret_bool HT.out.symm, Below.drewN HB.out _⟩
      · have g1 := inB_f h1
        have HT := hide (HN.out (by simp only [okF, decide_eq_false_iff_not]; omega))
        clear HN HS h1 hr hb he
        generalize zs[k] = z at *
        go_wp2_with fail
        go_quiet ((first | (go_at_call 109; exact Pure.quiet (within_any _ _ _ _)) | (go_at_call 110; exact Pure.quiet (l1In_any _ _ _ _)) | fail))
        go_wp2_with fail
        go_ret
        exact ⟨ret_bool HT.out.symm, Below.drewN HB.out _⟩
    · have e : k = zs.length := by omega
      subst e
      have HF := hide (framesOk_all hall)
      clear hr hb hall he
      go_wp2_with fail
      go_ret
      exact ⟨ret_bool (by rw [HF.out]; simp <;> omega), HB.out⟩
def hitF (at_ : Int) (z : D) : Bool := decide (z.1 ≤ at_ ∧ at_ < z.2.1)
def frameIx (zs : List D) (at_ : Int) : Int := match zs.findIdx? (hitF at_) with
  | some k => (k : Int)
  | none => -1
def frameOf (zs : List D) (at_ : Int) : Int := if framesOk zs then frameIx zs at_ else -1
theorem frameIx_hit {zs : List D} {at_ : Int} {k : Nat} (hk : k < zs.length) (h : hitF at_ zs[k] = true) (hb : ∀ z ∈ zs.take k, hitF at_ z = false) : frameIx zs at_ = k := by
  have : zs.findIdx? (hitF at_) = some k := by
    rw [List.findIdx?_eq_some_iff_getElem]
    refine ⟨hk, h, fun j hj => ?_⟩
    have hm : zs[j] ∈ zs.take k := by
      rw [List.mem_take_iff_getElem]
      exact ⟨j, by omega, rfl⟩
    simp [hb _ hm]
  unfold frameIx
  rw [this]
theorem frameIx_none {zs : List D} {at_ : Int} (hb : ∀ z ∈ zs, hitF at_ z = false) : frameIx zs at_ = -1 := by
  have : zs.findIdx? (hitF at_) = none := by
    rw [List.findIdx?_eq_none_iff]
    exact hb
  unfold frameIx
  rw [this]
theorem none_more {zs : List D} {at_ : Int} {k : Nat} (hk : k < zs.length) (h : hitF at_ zs[k] = false) (hb : ∀ z ∈ zs.take k, hitF at_ z = false) : ∀ z ∈ zs.take (k + 1), hitF at_ z = false := by
  intro z hz
  rw [take_succ hk, List.mem_append] at hz
  rcases hz with hz | hz
  · exact hb z hz
  · simp at hz
    rw [hz]
    exact h
theorem frameOf_any (A : Option Addr) (zs : List D) (c : Nat) (at_ : Int) (w : World) (hr : Rd w w.heap.size A (cellsOf frameC zs)) (hm : zs.length ≤ maxLen) :
    Calls Try.prog 42 #[.slice A zs.length c, .int .i64 at_] w (Ret (.int .i64 (frameOf zs at_)) w) := by
  have hm' := hm
  unfold maxLen at hm
  cases hv : framesOk zs
  · have HF := hide (show frameOf zs at_ = -1 by rw [frameOf, hv]; rfl)
    go_enter Try.func42, Try.ntmps42
    go_wp2_with fail
    refine (framesValid_any A zs c w hr hm').mono ?_
    rintro e w1 ⟨rfl, hb1⟩
    rw [hv]
    go_wp2_with fail
    go_ret
    exact ⟨ret_int HF.out.symm, hb1⟩
  · have HF := hide (show frameOf zs at_ = frameIx zs at_ by rw [frameOf, hv]; rfl)
    go_enter Try.func42, Try.ntmps42
    go_wp2_with fail
    refine (framesValid_any A zs c w hr hm').mono ?_
    rintro e w1 ⟨rfl, hb1⟩
    rw [hv]
    clear hv hm'
    go_wp2_with fail
    go_loopw [12] (fun i wr => ∃ k : Nat, k ≤ zs.length ∧ i = .int .i64 k ∧ (∀ z ∈ zs.take k, hitF at_ z = false) ∧ Below w.heap.size w wr) (fun i _ => zs.length - (intOf i).toNat)
    case atStart => exact ⟨0, Nat.zero_le _, rfl, by simp, hb1⟩
    case round =>
      obtain ⟨k, hk, rfl, hall, hb⟩ := hrel
      have HB := hide hb
      clear hb1
      by_cases hlt : k < zs.length
      · obtain ⟨b, off, rfl, _, hc⟩ := (hr.below hb).row frameC_len (by decide) hlt
        have hc0 := hc 0 _ rfl
        have hc1 := hc 1 _ rfl
        have hc2 := hc 2 _ rfl
        simp only [Nat.add_zero] at hc0
        have HY := hide (fun h : hitF at_ zs[k] = true => frameIx_hit hlt h hall)
        have HN := hide (fun h : hitF at_ zs[k] = false => none_more hlt h hall)
        clear hr hb hc hall
        generalize zs[k] = z at *
        by_cases h1 : z.1 ≤ at_
        · by_cases h2 : at_ < z.2.1
          · have HT := hide (HY.out (by simp [hitF, h1, h2]))
            clear HY HN
            go_wp2_with fail
            go_ret
            exact ⟨ret_int (by rw [HF.out, HT.out]), HB.out.alloc HB.out.size _⟩
          · have HT := hide (HN.out (by simp [hitF]; omega))
            clear HY HN
            have hd2 : decide (at_ < z.2.1) = false := by simp; omega
            go_wp2_with fail
            refine ⟨⟨k + 1, by omega, by go_num, HT.out, HB.out.alloc HB.out.size _⟩, by simp [intOf]; omega⟩
        · have HT := hide (HN.out (by simp [hitF]; omega))
          clear HY HN
          have hd1 : decide (z.1 ≤ at_) = false := by simp; omega
          go_wp2_with fail
          refine ⟨⟨k + 1, by omega, by go_num, HT.out, HB.out.alloc HB.out.size _⟩, by simp [intOf]; omega⟩
      · have e : zs.take k = zs := List.take_of_length_le (by omega)
        rw [e] at hall
        have HT := hide (frameIx_none hall)
        clear hr hb e hall
        go_wp2_with fail
        go_ret
        exact ⟨ret_int (by rw [HF.out, HT.out]), HB.out⟩
theorem frameOfS_any (A : Option Addr) (zs : List D) (c : Nat) (at_ : Int) (w : World) (hr : Rd w w.heap.size A (cellsOf frameC zs)) (hm : zs.length ≤ maxLen) :
    Calls Try.prog 43 #[.slice A zs.length c, .int .i64 at_] w (Ret (.int .i64 (frameOf zs at_)) w) := by
  have hm' := hm
  unfold maxLen at hm
  cases hv : framesOk zs
  · have HF := hide (show frameOf zs at_ = -1 by rw [frameOf, hv]; rfl)
    go_enter Try.func43, Try.ntmps43
    go_wp2_with fail
    refine wp_loop_once ?_
    by_cases hlt : 0 < zs.length
    · go_wp2_with fail
      refine (framesValidS_any A zs c _ hr hm').mono ?_
      rintro e w1 ⟨rfl, hb1⟩
      rw [hv]
      clear hv hm'
      go_wp2_with fail
      go_ret
      exact ⟨ret_int HF.out.symm, hb1⟩
    · clear hv hm'
      go_wp2_with fail
      go_ret
      exact ⟨ret_int HF.out.symm, Below.refl _ _⟩
  · have HF := hide (show frameOf zs at_ = frameIx zs at_ by rw [frameOf, hv]; rfl)
    have HV := hide hv
    have HM := hide hm'
    go_enter Try.func43, Try.ntmps43
    go_wp2_with fail
    clear hv hm'
    go_loopw [5] (fun i wr => ∃ k : Nat, k ≤ zs.length ∧ i = .int .i64 k ∧ (∀ z ∈ zs.take k, hitF at_ z = false) ∧ Below w.heap.size w wr) (fun i _ => zs.length - (intOf i).toNat)
    case atStart => exact ⟨0, Nat.zero_le _, rfl, by simp, Below.refl _ _⟩
    case round =>
      obtain ⟨k, hk, rfl, hall, hb⟩ := hrel
      by_cases hlt : k < zs.length
      · have HB := hide hb
        have HR := hide hr
        have HY := hide (fun h : hitF at_ zs[k] = true => frameIx_hit hlt h hall)
        have HN := hide (fun h : hitF at_ zs[k] = false => none_more hlt h hall)
        clear hr hb hall
        go_wp2_with fail
        refine (framesValidS_any A zs c _ ((HR.out.below HB.out).more HB.out.size) HM.out).mono ?_
        rintro e w1 ⟨rfl, hb1⟩
        rw [HV.out]
        have hb := HB.out.trans (hb1.mono HB.out.size)
        have HB' := hide hb
        obtain ⟨b, off, rfl, _, hc⟩ := (HR.out.below hb).row frameC_len (by decide) hlt
        have hc0 := hc 0 _ rfl
        have hc1 := hc 1 _ rfl
        simp only [Nat.add_zero] at hc0
        clear hc hb hb1
        generalize zs[k] = z at *
        by_cases h1 : z.1 ≤ at_
        · by_cases h2 : at_ < z.2.1
          · have HT := hide (HY.out (by simp [hitF, h1, h2]))
            clear HY HN
            go_wp2_with fail
            go_ret
            exact ⟨ret_int (by rw [HF.out, HT.out]), HB'.out⟩
          · have HT := hide (HN.out (by simp [hitF]; omega))
            clear HY HN
            have hd2 : decide (at_ < z.2.1) = false := by simp; omega
            go_wp2_with fail
            refine ⟨⟨k + 1, by omega, by go_num, HT.out, HB'.out⟩, by simp [intOf]; omega⟩
        · have HT := hide (HN.out (by simp [hitF]; omega))
          clear HY HN
          have hd1 : decide (z.1 ≤ at_) = false := by simp; omega
          go_wp2_with fail
          refine ⟨⟨k + 1, by omega, by go_num, HT.out, HB'.out⟩, by simp [intOf]; omega⟩
      · have e : zs.take k = zs := List.take_of_length_le (by omega)
        rw [e] at hall
        have HT := hide (frameIx_none hall)
        clear hr e hall
        have HB := hide hb
        clear hb
        go_wp2_with fail
        go_ret
        exact ⟨ret_int (by rw [HF.out, HT.out]), HB.out⟩
end Go.Proofs.Ytndnmbhhfiacaaa.CFramesValid
