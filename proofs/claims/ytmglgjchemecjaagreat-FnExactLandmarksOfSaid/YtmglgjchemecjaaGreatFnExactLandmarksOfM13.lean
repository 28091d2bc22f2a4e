/- The reference's SortSymbols. -/
import Derived.Test.YtmglgjchemecjaaGreatFnExactLandmarksOfM12
set_option linter.unusedSimpArgs false
set_option linter.unusedVariables false
namespace Go.Proofs.YtmglgjchemecjaaGreat.CSortS
set_option maxRecDepth 200000
open Go.ChangeShapes Go.WideShapes Go.ChangeAt Go.RowKit Kit CCode CFixups CSymbols PObj BObj CMarkRows PValid CSecValid CUses CCovers CObjValid CObjValidS PWarn CCopyS CCopyI BStore PClear PSort CCmp CCmpY CIns CSort CClearS
/-- Where each number stands in L, filled in for the first k places. -/
def tl (L : List Nat) : Nat → List Nat
  | 0 => List.replicate L.length 0
  | k + 1 => (tl L k).set (L.getD k 0) k
theorem tl_len (L : List Nat) : ∀ k, (tl L k).length = L.length
  | 0 => by simp [tl]
  | k + 1 => by rw [tl, List.length_set, tl_len L k]
theorem tl_get {L : List Nat} (hn : L.Nodup) (hl : ∀ x ∈ L, x < L.length) : ∀ k, k ≤ L.length → ∀ i, i < k → (tl L k).getD (L.getD i 0) 0 = i
  | 0, _, i, hi => by omega
  | k + 1, hk, i, hi => by
    have hgd : ∀ q, (hq : q < L.length) → L.getD q 0 = L[q] := fun q hq => by rw [List.getD_eq_getElem?_getD, List.getElem?_eq_getElem hq]; rfl
    have hkl : L.getD k 0 < (tl L k).length := by rw [tl_len, hgd k (by omega)]; exact hl _ (List.getElem_mem _)
    rw [tl, List.getD_eq_getElem?_getD, List.getElem?_set]
    by_cases hik : i = k
    · subst hik
      rw [if_pos rfl, if_pos hkl]
      rfl
    · have hne : ¬ L.getD k 0 = L.getD i 0 := by
        rw [hgd k (by omega), hgd i (by omega)]
        intro h
        exact List.pairwise_iff_getElem.1 hn i k (by omega) (by omega) (by omega) h.symm
      rw [if_neg hne, ← List.getD_eq_getElem?_getD]
      exact tl_get hn hl k (by omega) i (by omega)
theorem tl_idx {L : List Nat} (hn : L.Nodup) (hl : ∀ x ∈ L, x < L.length) {x : Nat} (hx : x ∈ L) : (tl L L.length).getD x 0 = L.idxOf x := by
  have h := tl_get hn hl L.length (Nat.le_refl _) (L.idxOf x) (List.idxOf_lt_length_of_mem hx)
  have e : L.getD (L.idxOf x) 0 = x := by
    rw [List.getD_eq_getElem?_getD, List.getElem?_eq_getElem (List.idxOf_lt_length_of_mem hx)]
    exact List.getElem_idxOf _
  rwa [e] at h
/-- The blocks of an object are none of a row of numbers. -/
theorem oblk_ne {w : World} {base base' n c gt : Nat} {o : OV} {xs : List Value} (h : OwnO w base o) (hr : Row w base' 3 1 (some ⟨gt, 0, none⟩) n c xs) (hb : blk (some ⟨gt, 0, none⟩) c = some gt) : ∀ k, oblk o k → k ≠ gt := by
  rintro k ((hk | ⟨p, hp, hk | hk⟩) | hk) rfl
  · exact apartT h.1.1 hr (by decide) _ hk hb
  · exact apartT (h.1.2.1 p hp).1 hr (by decide) _ hk hb
  · exact apartT (h.1.2.1 p hp).2 hr (by decide) _ hk hb
  · exact apartT h.2 hr (by decide) _ hk hb
/-- What a slice 's[j:]' reads. -/
theorem rd_tail {w : World} {B ga k c j jj : Nat} {xs : List Value} {size : Nat} (h : Rd w B (some ⟨ga, 0, none⟩) xs) (hl : xs.length = k * size) (hk : k ≤ c) (hjj : jj = j * size) :
    Rd w B (if c = j then some ⟨ga, 0, none⟩ else some ⟨ga, jj, none⟩) (xs.drop jj) := by
  subst hjj
  split
  · have : xs.drop (j * size) = [] := List.drop_of_length_le (by rw [hl]; exact Nat.mul_le_mul_right _ (by omega))
    rw [this]
    exact Rd.nil _
  · intro i u hi
    rw [List.getElem?_drop] at hi
    obtain ⟨b, off, e, hb, hc⟩ := h (j * size + i) u hi
    simp only [Option.some.injEq, Addr.mk.injEq, and_true] at e
    obtain ⟨rfl, rfl⟩ := e
    exact ⟨_, j * size, rfl, hb, by rw [Nat.zero_add] at hc; exact hc⟩
theorem pos_stop {bf : Nat → Nat → Bool} {L : List Nat} {x j : Nat} (h : (decide (0 < j) && bf x (L.getD (j - 1) 0)) = false) : pos bf L x j = j := by
  cases j with
  | zero => rfl
  | succ m =>
    have : bf x (L.getD m 0) = false := by simpa using h
    rw [pos, this]
    rfl
theorem pos_go {bf : Nat → Nat → Bool} {L : List Nat} {x j : Nat} (h : (decide (0 < j) && bf x (L.getD (j - 1) 0)) = true) : ∃ m, j = m + 1 ∧ pos bf L x j = pos bf L x m := by
  cases j with
  | zero => cases h
  | succ m =>
    have : bf x (L.getD m 0) = true := by simpa using h
    exact ⟨m, rfl, by rw [pos, this]; rfl⟩
set_option maxHeartbeats 4000000 in
theorem sortSymbolsS_any (o : OV) (w : World) (hr : RdO w w.heap.size o) (hf : Fit o) (hn : Nils o) :
    Calls Tryz.prog 14 #[.agg #[.slice o.A o.ps.length o.c, .slice o.Y o.ys.length o.yc]] w (RetO (sortD o.d) w) := by
  obtain ⟨i0, hi1, hi2, hi3, hi4⟩ := info_parts CInts.info64
  have HI := hide (And.intro hi1 (And.intro hi2 (And.intro hi3 hi4)))
  clear hi1 hi2 hi3 hi4
  have HR := hide hr
  have HF := hide hf
  have HN := hide hn
  clear hr hf hn
  have HB := hide (show Below w.heap.size w ((w.alloc (.cells #[.slice o.A o.ps.length o.c, .slice o.Y o.ys.length o.yc] 31)).alloc (.cells #[.slice none 0 0, .slice none 0 0] 31)) from (by repeat (first | exact Below.refl _ _ | with_reducible assumption | (refine Below.drew ?_) | (refine Below.drewN ?_ _) | (refine Below.alloc ?_ (by simp; try omega) _) | (refine Below.setCell ?_ (by simp; try omega) _))))
  have HV := hide ((Box.new w 31 #[.slice o.A o.ps.length o.c, .slice o.Y o.ys.length o.yc]).alloc (.cells #[.slice none 0 0, .slice none 0 0] 31))
  have HR0 := (Box.new (w.alloc (.cells #[.slice o.A o.ps.length o.c, .slice o.Y o.ys.length o.yc] 31)) 31 #[.slice none 0 0, .slice none 0 0])
  simp only [World.size_alloc] at HR0
  have HRR := hide HR0
  clear HR0
  go_enter Tryz.func14, Tryz.ntmps14
  go_wp2_with fail
  generalize (w.alloc (.cells #[.slice o.A o.ps.length o.c, .slice o.Y o.ys.length o.yc] 31)).alloc (.cells #[.slice none 0 0, .slice none 0 0] 31) = w0 at *
  have hVR : w.heap.size < w.heap.size + 1 := by omega
  generalize w.heap.size + 1 = R at *
  refine (objectValidS_any o w0 ((HR.out.below HB.out).more HB.out.size) HF.out).mono ?_
  rintro e w1 ⟨rfl, b1⟩
  replace HB := hide (HB.out.trans (b1.mono HB.out.size))
  replace HV := hide (HV.out.call b1)
  replace HRR := hide (HRR.out.call b1)
  clear b1
  cases hok : objOk o.d
  · have HVD := hide (sort_bad hok)
    have y0 := HRR.out.cell 0
    have y1 := HRR.out.cell 1
    simp only [List.getElem?_toArray, List.getElem?_cons_zero, List.getElem?_cons_succ] at y0 y1
    have yf0 := HRR.out.frozen 0
    have yf1 := HRR.out.frozen 1
    have hrl := HRR.out.lt
    have HFIN := hide (CObject.ret_object (w := w) (w1 := w1) (Y := R) (o := ⟨none, 0, [], none, 0, []⟩) ⟨⟨Row.empty _ _ _ _ _, (fun p hp => by cases hp), List.Pairwise.nil⟩, Row.empty _ _ _ _ _⟩ HB.out (by rintro k ((hk | ⟨p, hp, hk⟩) | hk) <;> first | (exact absurd hp List.not_mem_nil) | cases hk) (Nat.le_of_lt hVR))
    have kk := (HRR.out.set 0 (.slice none 0 0)).set 1 (.slice none 0 0)
    have k0 := kk.cell 0
    have k1 := kk.cell 1
    simp only [List.setIfInBounds_toArray, List.set_cons_zero, List.set_cons_succ, List.getElem?_toArray, List.getElem?_cons_zero, List.getElem?_cons_succ] at k0 k1
    clear kk hok
    go_wp2_with fail
    exact bodyPost_ret (v := OV.v ⟨none, 0, [], none, 0, []⟩) (by simp [results, Tryz.results14, go_sem, OV.v, k0, k1]) rfl (by rw [HVD.out]; exact HFIN.out)
  have HOK := hide hok
  have HAL := hide (obj_all hok)
  have hal := obj_all hok
  have hyl : o.ys.length ≤ 12 := by have := hal.2.1; simpa [OV.d] using this
  have HS2 := hide (show o.ps.length ≤ 100 ∧ o.ys.length ≤ 100 from by
    have h1 := hal.1
    simp only [OV.d, List.length_map] at h1
    omega)
  clear hal hok
  have x0 := HV.out.cell 0
  have x1 := HV.out.cell 1
  simp only [List.getElem?_toArray, List.getElem?_cons_zero, List.getElem?_cons_succ] at x0 x1
  have hvl := HV.out.lt
  go_wp2_with fail
  refine (l4Copy_any o w1 ((HR.out.below HB.out).more HB.out.size) HF.out HN.out HS2.out).mono ?_
  rintro e w6 ⟨⟨Aq, cq, ps, Y, yc, ys⟩, rfl, hd, hown, b6⟩
  have HO6 := hide (hown.down HB.out.size)
  replace HB := hide (HB.out.trans (b6.mono HB.out.size))
  replace HV := hide (HV.out.call b6)
  replace HRR := hide (HRR.out.call b6)
  clear b6
  have HPL := hide (show ps.map SV.d = o.ps.map SV.d from congrArg OD.ss hd)
  have hys : ys = o.ys := congrArg OD.ys hd
  subst hys
  have HDD := hide (show sortD o.d = ⟨(ps.map (renP (order o.ys))).map SV.d, (order o.ys).map fun i => o.ys.getD i dY⟩ by
    rw [← hd]
    exact sort_ok (by have := HOK.out; rw [← hd] at this; exact this))
  have hal := HAL.out
  rw [← hd] at hal
  have hpl : ps.length ≤ 8 := by simpa [OV.d] using hal.1
  have HFX := hide (show ∀ p ∈ ps, p.fs.length ≤ 6 ∧ ∀ f ∈ p.fs, 0 ≤ f.2.2.1 ∧ f.2.2.1 < o.ys.length from fun p hp => by
    have h := hal.2.2 p.d (List.mem_map_of_mem hp)
    exact ⟨h.1, fun f hf => (h.2.2 f hf).2⟩)
  clear hd hown hal HAL HS2 HOK HF HN x0 x1 hvl
  simp only [OV.v]
  go_wp2_with fail
  go_wp2_with fail
  have B7 : Below w6.heap.size w6 ((w6.alloc (.cells #[.slice Aq ps.length cq, .slice Y o.ys.length yc] 31)).alloc (.cells #[] 3)) := (by repeat (first | exact Below.refl _ _ | with_reducible assumption | (refine Below.drew ?_) | (refine Below.drewN ?_ _) | (refine Below.alloc ?_ (by simp; try omega) _) | (refine Below.setCell ?_ (by simp; try omega) _)))
  have HX := hide ((Box.new w6 31 #[.slice Aq ps.length cq, .slice Y o.ys.length yc]).alloc (.cells #[] 3))
  have HRX := hide HRR.out.lt
  have HVX := hide HV.out.lt
  replace HB := hide (HB.out.trans (B7.mono HB.out.size))
  replace HO6 := hide (HO6.out.call B7)
  replace HV := hide (HV.out.call B7)
  replace HRR := hide (HRR.out.call B7)
  clear B7
  generalize (w6.alloc (.cells #[.slice Aq ps.length cq, .slice Y o.ys.length yc] 31)).alloc (.cells #[] 3) = w7 at *
  generalize w6.heap.size + 1 = Z at *
  generalize w6.heap.size = X at *
  generalize hbf : bfY o.ys = bf at *
  have HBF := hide hbf
  clear hbf
  go_loopw [4, 5] (fun s i wi => ∃ (k ga c : Nat), k ≤ o.ys.length ∧ s = .slice (some ⟨ga, 0, none⟩) k c ∧ i = .int .i64 k ∧ Row wi w.heap.size 3 1 (some ⟨ga, 0, none⟩) k c (ints .i64 (toI (ord bf k))) ∧ OwnO wi w.heap.size ⟨Aq, cq, ps, Y, yc, o.ys⟩ ∧ Box wi X 31 #[.slice Aq ps.length cq, .slice Y o.ys.length yc] ∧ Box wi w.heap.size 31 #[.slice o.A o.ps.length o.c, .slice o.Y o.ys.length o.yc] ∧ Box wi R 31 #[.slice none 0 0, .slice none 0 0] ∧ Below w.heap.size w wi) (fun _ i _ => o.ys.length - (intOf i).toNat)
  case atStart => exact ⟨0, Z, 0, Nat.zero_le _, rfl, rfl, Row.empty _ _ _ _ _, HO6.out, HX.out, HV.out, HRR.out, HB.out⟩
  case round =>
    clear HV HRR HB HX HO6
    obtain ⟨k, ga, c, hk, rfl, rfl, hrow, ho, hx, hv, hrr, hb⟩ := hrel
    have HROW := hide hrow
    have HO := hide ho
    have HX := hide hx
    have HV := hide hv
    have HRR := hide hrr
    have HB := hide hb
    clear hrow ho hx hv hrr hb
    have HLN := hide (show (ord bf k).length = k from ord_len _ k)
    have HIN := hide (show ord bf (k + 1) = ins bf (ord bf k) k from rfl)
    have HLLT := hide (fun x (h : x ∈ ord bf k) => (show x < k from ord_lt _ h))
    generalize hLe : ord bf k = L at *
    have HLE := hide hLe
    clear hLe
    have v0 := HV.out.cell 0
    have v1 := HV.out.cell 1
    simp only [List.getElem?_toArray, List.getElem?_cons_zero, List.getElem?_cons_succ] at v0 v1
    have hvl := HV.out.lt
    by_cases hlt : k < o.ys.length
    · obtain ⟨b, off, hY, hbg, hc⟩ := (HR.out.2.below HB.out).row symbolC_len (by decide) hlt
      have HKB := hide (And.intro hbg (show ∀ V, Below wr.heap.size wr V → ∀ i u, (symbolC o.ys[k])[i]? = some u → V.cell? ⟨b, off + k * 4 + i, none⟩ = some u from fun V hV i u hu => (hV.cell (p := ⟨b, _, none⟩) (Nat.lt_of_lt_of_le hbg HB.out.size)).trans (hc i u hu)))
      have HHY := hide hY
      clear hc hY hbg
      go_wp2_with fail
      go_loopw [6] (fun i wi => ∃ (j : Nat), j ≤ k ∧ i = .int .i64 j ∧ pos bf L k L.length = pos bf L k j ∧ Below wr.heap.size wr wi) (fun i _ => (intOf i).toNat)
      case atStart => exact ⟨k, Nat.le_refl _, rfl, by rw [HLN.out], Below.refl _ _⟩
      case round =>
        rename World => wj
        obtain ⟨j, hj, rfl, hpos, hbj⟩ := hrel
        have HPOS := hide hpos
        have HBJ := hide hbj
        clear hpos hbj
        go_upto_region 9 with (fail)
        go_cut [46] from 28 to 46 (fun t wx => t = .bool (decide (0 < j) && bf k (L.getD (j - 1) 0)) ∧ Below wr.heap.size wr wx)
        case first =>
          cases j with
          | zero =>
            refine Rv.start (fun _ => True) (fun _ => false) (by kernel_rfl) ?_
            refine Rv.comp (i := 0) (v := ?_) rfl (by kernel_rfl) (by kernel_rfl) (by kernel_rfl) (fun _ _ _ h => h) (Or.inl ⟨by rfl, ?_⟩) ?_
            rotate_left 1
            focus (intro w hSw; (try dsimp only at hSw); go_simp; (try with_reducible rfl))
            try simp only [List.getElem_toArray, List.getElem_cons_succ, List.getElem_cons_zero, Act.put, List.setIfInBounds_toArray, List.set_cons_zero, List.set_cons_succ]
            refine Rv.comp (i := 1) (v := ?_) rfl (by kernel_rfl) (by kernel_rfl) (by kernel_rfl) (fun _ _ _ h => h) (Or.inl ⟨by rfl, ?_⟩) ?_
            rotate_left 1
            focus (intro w hSw; (try dsimp only at hSw); go_simp; (try with_reducible rfl))
            try simp only [List.getElem_toArray, List.getElem_cons_succ, List.getElem_cons_zero, Act.put, List.setIfInBounds_toArray, List.set_cons_zero, List.set_cons_succ]
            refine Rv.comp (i := 2) (v := ?_) rfl (by kernel_rfl) (by kernel_rfl) (by kernel_rfl) (fun _ _ _ h => h) (Or.inl ⟨by rfl, ?_⟩) ?_
            rotate_left 1
            focus (intro w hSw; (try dsimp only at hSw); go_simp; (try with_reducible rfl))
            try simp only [List.getElem_toArray, List.getElem_cons_succ, List.getElem_cons_zero, Act.put, List.setIfInBounds_toArray, List.set_cons_zero, List.set_cons_succ]
            refine Rv.comp (i := 3) (v := undef) rfl (by kernel_rfl) (by kernel_rfl) (by kernel_rfl) (fun _ _ _ h => h) (Or.inr ⟨by rfl, rfl⟩) ?_
            try simp only [List.getElem_toArray, List.getElem_cons_succ, List.getElem_cons_zero, Act.put, List.setIfInBounds_toArray, List.set_cons_zero, List.set_cons_succ]
            refine Rv.comp (i := 4) (v := undef) rfl (by kernel_rfl) (by kernel_rfl) (by kernel_rfl) (fun _ _ _ h => h) (Or.inr ⟨by rfl, rfl⟩) ?_
            try simp only [List.getElem_toArray, List.getElem_cons_succ, List.getElem_cons_zero, Act.put, List.setIfInBounds_toArray, List.set_cons_zero, List.set_cons_succ]
            refine Rv.comp (i := 5) (v := undef) rfl (by kernel_rfl) (by kernel_rfl) (by kernel_rfl) (fun _ _ _ h => h) (Or.inr ⟨by rfl, rfl⟩) ?_
            try simp only [List.getElem_toArray, List.getElem_cons_succ, List.getElem_cons_zero, Act.put, List.setIfInBounds_toArray, List.set_cons_zero, List.set_cons_succ]
            refine Rv.comp (i := 6) (v := undef) rfl (by kernel_rfl) (by kernel_rfl) (by kernel_rfl) (fun _ _ _ h => h) (Or.inr ⟨by rfl, rfl⟩) ?_
            try simp only [List.getElem_toArray, List.getElem_cons_succ, List.getElem_cons_zero, Act.put, List.setIfInBounds_toArray, List.set_cons_zero, List.set_cons_succ]
            refine Rv.comp (i := 7) (v := undef) rfl (by kernel_rfl) (by kernel_rfl) (by kernel_rfl) (fun _ _ _ h => h) (Or.inr ⟨by rfl, rfl⟩) ?_
            try simp only [List.getElem_toArray, List.getElem_cons_succ, List.getElem_cons_zero, Act.put, List.setIfInBounds_toArray, List.set_cons_zero, List.set_cons_succ]
            refine Rv.comp (i := 8) (v := undef) rfl (by kernel_rfl) (by kernel_rfl) (by kernel_rfl) (fun _ _ _ h => h) (Or.inr ⟨by rfl, rfl⟩) ?_
            try simp only [List.getElem_toArray, List.getElem_cons_succ, List.getElem_cons_zero, Act.put, List.setIfInBounds_toArray, List.set_cons_zero, List.set_cons_succ]
            refine Rv.comp (i := 9) (v := undef) rfl (by kernel_rfl) (by kernel_rfl) (by kernel_rfl) (fun _ _ _ h => h) (Or.inr ⟨by rfl, rfl⟩) ?_
            try simp only [List.getElem_toArray, List.getElem_cons_succ, List.getElem_cons_zero, Act.put, List.setIfInBounds_toArray, List.set_cons_zero, List.set_cons_succ]
            refine Rv.comp (i := 10) (v := undef) rfl (by kernel_rfl) (by kernel_rfl) (by kernel_rfl) (fun _ _ _ h => h) (Or.inr ⟨by rfl, rfl⟩) ?_
            try simp only [List.getElem_toArray, List.getElem_cons_succ, List.getElem_cons_zero, Act.put, List.setIfInBounds_toArray, List.set_cons_zero, List.set_cons_succ]
            refine Rv.comp (i := 11) (v := undef) rfl (by kernel_rfl) (by kernel_rfl) (by kernel_rfl) (fun _ _ _ h => h) (Or.inr ⟨by rfl, rfl⟩) ?_
            try simp only [List.getElem_toArray, List.getElem_cons_succ, List.getElem_cons_zero, Act.put, List.setIfInBounds_toArray, List.set_cons_zero, List.set_cons_succ]
            refine Rv.comp (i := 12) (v := undef) rfl (by kernel_rfl) (by kernel_rfl) (by kernel_rfl) (fun _ _ _ h => h) (Or.inr ⟨by rfl, rfl⟩) ?_
            try simp only [List.getElem_toArray, List.getElem_cons_succ, List.getElem_cons_zero, Act.put, List.setIfInBounds_toArray, List.set_cons_zero, List.set_cons_succ]
            refine Rv.comp (i := 13) (v := undef) rfl (by kernel_rfl) (by kernel_rfl) (by kernel_rfl) (fun _ _ _ h => h) (Or.inr ⟨by rfl, rfl⟩) ?_
            try simp only [List.getElem_toArray, List.getElem_cons_succ, List.getElem_cons_zero, Act.put, List.setIfInBounds_toArray, List.set_cons_zero, List.set_cons_succ]
            refine Rv.comp (i := 14) (v := undef) rfl (by kernel_rfl) (by kernel_rfl) (by kernel_rfl) (fun _ _ _ h => h) (Or.inr ⟨by rfl, rfl⟩) ?_
            try simp only [List.getElem_toArray, List.getElem_cons_succ, List.getElem_cons_zero, Act.put, List.setIfInBounds_toArray, List.set_cons_zero, List.set_cons_succ]
            refine Rv.comp (i := 15) (v := undef) rfl (by kernel_rfl) (by kernel_rfl) (by kernel_rfl) (fun _ _ _ h => h) (Or.inr ⟨by rfl, rfl⟩) ?_
            try simp only [List.getElem_toArray, List.getElem_cons_succ, List.getElem_cons_zero, Act.put, List.setIfInBounds_toArray, List.set_cons_zero, List.set_cons_succ]
            refine Rv.comp (i := 16) (v := undef) rfl (by kernel_rfl) (by kernel_rfl) (by kernel_rfl) (fun _ _ _ h => h) (Or.inr ⟨by rfl, rfl⟩) ?_
            try simp only [List.getElem_toArray, List.getElem_cons_succ, List.getElem_cons_zero, Act.put, List.setIfInBounds_toArray, List.set_cons_zero, List.set_cons_succ]
            refine Rv.comp (i := 17) (v := undef) rfl (by kernel_rfl) (by kernel_rfl) (by kernel_rfl) (fun _ _ _ h => h) (Or.inr ⟨by rfl, rfl⟩) ?_
            try simp only [List.getElem_toArray, List.getElem_cons_succ, List.getElem_cons_zero, Act.put, List.setIfInBounds_toArray, List.set_cons_zero, List.set_cons_succ]
            refine Rv.comp (i := 18) (v := ?_) rfl (by kernel_rfl) (by kernel_rfl) (by kernel_rfl) (fun _ _ _ h => h) (Or.inl ⟨by rfl, ?_⟩) ?_
            rotate_left 1
            focus (intro w hSw; (try dsimp only at hSw); go_simp; (try with_reducible rfl))
            try simp only [List.getElem_toArray, List.getElem_cons_succ, List.getElem_cons_zero, Act.put, List.setIfInBounds_toArray, List.set_cons_zero, List.set_cons_succ]
            refine Rv.done (by kernel_rfl) ?_ _
            go_wp2_with fail
            go_meet
            exact ⟨rfl, HBJ.out.drew⟩
          | succ m =>
            have hml : m < L.length := by rw [HLN.out]; omega
            obtain ⟨g', hA, hca, hgal⟩ := HROW.out.at1 (i := m) (by rw [toI_len]; exact hml)
            simp only [Option.some.injEq, Addr.mk.injEq, and_true] at hA
            subst hA
            rw [toI_getD] at hca
            have hpl : L.getD m 0 < o.ys.length := by
              have := HLLT.out (L.getD m 0) (by rw [List.getD_eq_getElem?_getD, List.getElem?_eq_getElem hml]; exact List.getElem_mem hml)
              omega
            have HRES := hide (show bf k (L.getD m 0) = bef o.ys[k] o.ys[L.getD m 0] by rw [← HBF.out, bfY, CObjValid.getD_at hlt dY, CObjValid.getD_at hpl dY])
            have HM1 := hide (show (decide (0 < m + 1) && bf k (L.getD (m + 1 - 1) 0)) = bf k (L.getD m 0) by simp)
            generalize L.getD m 0 = p at *
            obtain ⟨b', off', hY', hbg', hc'⟩ := (HR.out.2.below HB.out).row symbolC_len (by decide) hpl
            rw [HHY.out] at hY'
            simp only [Option.some.injEq, Addr.mk.injEq, and_true] at hY'
            obtain ⟨rfl, rfl⟩ := hY'
            have hc := HKB.out.2
            have s0 := hc wj HBJ.out 0 _ rfl
            have s1 := hc wj HBJ.out 1 _ rfl
            have s2 := hc wj HBJ.out 2 _ rfl
            have s3 := hc wj HBJ.out 3 _ rfl
            have hcp : ∀ i u, (symbolC o.ys[p])[i]? = some u → wj.cell? ⟨b, off + p * 4 + i, none⟩ = some u := fun i u hu => (HBJ.out.cell (p := ⟨b, _, none⟩) (Nat.lt_of_lt_of_le hbg' HB.out.size)).trans (hc' i u hu)
            have q0 := hcp 0 _ rfl
            have q1 := hcp 1 _ rfl
            have q2 := hcp 2 _ rfl
            have q3 := hcp 3 _ rfl
            simp only [Nat.add_zero] at s0 q0
            have r0 := (HBJ.out.cell (p := ⟨ga, m, none⟩) hgal).trans hca
            have u1 := (HBJ.out.cell (p := ⟨w.heap.size, 1, none⟩) hvl).trans v1
            rw [HHY.out] at u1
            have HCALL := hide (fun V => l22Before_any o.ys[k] o.ys[p] V)
            clear hc hcp hc' hca v0 v1
            generalize o.ys[k] = x at *
            generalize o.ys[p] = y at *
            generalize hmm : m + 1 = mm at *
            have hm0 : 0 < mm := by omega
            have hw1 : IntKind.i64.wrap ((mm : Int) - 1) = (mm : Int) - 1 := IntWalk.i64_in _ (by omega)
            have ht1 : ((mm : Int) - 1).toNat = m := by omega
            have hq1 : (0 : Int) ≤ (mm : Int) - 1 := by omega
            have hq2 : (1 : Int) ≤ (mm : Int) := by omega
            have hq3 : 1 ≤ mm := by omega
            have hmk : m < k := by omega
            have hq4 : (mm : Int) - 1 < k := by omega
            have hmkk : mm ≤ k := by omega
            clear hmm
            have HS := hide (fun V (hV : Below wj.heap.size wj V) => (show V.cell? ⟨w.heap.size, 1, none⟩ = some (.slice (some ⟨b, off, none⟩) o.ys.length o.yc) ∧ V.cell? ⟨b, off + k * 4, none⟩ = some (.string x.1) ∧ V.cell? ⟨b, off + k * 4 + 1, none⟩ = some (.int .i64 x.2.1) ∧ V.cell? ⟨b, off + k * 4 + 2, none⟩ = some (.int .i64 x.2.2.1) ∧ V.cell? ⟨b, off + k * 4 + 3, none⟩ = some (.int .i64 x.2.2.2) ∧ V.cell? ⟨ga, m, none⟩ = some (.int .i64 p) ∧ V.cell? ⟨b, off + p * 4, none⟩ = some (.string y.1) ∧ V.cell? ⟨b, off + p * 4 + 1, none⟩ = some (.int .i64 y.2.1) ∧ V.cell? ⟨b, off + p * 4 + 2, none⟩ = some (.int .i64 y.2.2.1) ∧ V.cell? ⟨b, off + p * 4 + 3, none⟩ = some (.int .i64 y.2.2.2) from by
              have hz := HBJ.out.size
              have hlk := fun q t (hq : q < wr.heap.size) => hV.cell (p := ⟨q, t, none⟩) (Nat.lt_of_lt_of_le hq hz)
              have hbw : b < wr.heap.size := Nat.lt_of_lt_of_le hbg' HB.out.size
              exact ⟨(hlk _ _ hvl).trans u1, (hlk _ _ hbw).trans s0, (hlk _ _ hbw).trans s1, (hlk _ _ hbw).trans s2, (hlk _ _ hbw).trans s3, (hlk _ _ hgal).trans r0, (hlk _ _ hbw).trans q0, (hlk _ _ hbw).trans q1, (hlk _ _ hbw).trans q2, (hlk _ _ hbw).trans q3⟩))
            clear s0 s1 s2 s3 q0 q1 q2 q3 r0 u1
            refine Rv.start (fun W => W.cell? ⟨w.heap.size, 1, none⟩ = some (.slice (some ⟨b, off, none⟩) o.ys.length o.yc) ∧ W.cell? ⟨b, off + k * 4, none⟩ = some (.string x.1) ∧ W.cell? ⟨b, off + k * 4 + 1, none⟩ = some (.int .i64 x.2.1) ∧ W.cell? ⟨b, off + k * 4 + 2, none⟩ = some (.int .i64 x.2.2.1) ∧ W.cell? ⟨b, off + k * 4 + 3, none⟩ = some (.int .i64 x.2.2.2) ∧ W.cell? ⟨ga, m, none⟩ = some (.int .i64 p) ∧ W.cell? ⟨b, off + p * 4, none⟩ = some (.string y.1) ∧ W.cell? ⟨b, off + p * 4 + 1, none⟩ = some (.int .i64 y.2.1) ∧ W.cell? ⟨b, off + p * 4 + 2, none⟩ = some (.int .i64 y.2.2.1) ∧ W.cell? ⟨b, off + p * 4 + 3, none⟩ = some (.int .i64 y.2.2.2)) (fun _ => false) (by kernel_rfl) ?_
            have hHeld := HS.out wj.drew (below_dr (Below.refl _ _))
            refine Rv.comp (i := 0) (v := ?_) rfl (by kernel_rfl) (by kernel_rfl) (by kernel_rfl) (fun _ _ _ h => h) (Or.inl ⟨by rfl, ?_⟩) ?_
            rotate_left 1
            focus (intro w hSw; (try dsimp only at hSw); go_simp; (try with_reducible rfl))
            try simp only [List.getElem_toArray, List.getElem_cons_succ, List.getElem_cons_zero, Act.put, List.setIfInBounds_toArray, List.set_cons_zero, List.set_cons_succ]
            refine Rv.comp (i := 1) (v := ?_) rfl (by kernel_rfl) (by kernel_rfl) (by kernel_rfl) (fun _ _ _ h => h) (Or.inl ⟨by rfl, ?_⟩) ?_
            rotate_left 1
            focus (intro w hSw; (try dsimp only at hSw); go_simp; (try with_reducible rfl))
            try simp only [List.getElem_toArray, List.getElem_cons_succ, List.getElem_cons_zero, Act.put, List.setIfInBounds_toArray, List.set_cons_zero, List.set_cons_succ]
            refine Rv.comp (i := 2) (v := ?_) rfl (by kernel_rfl) (by kernel_rfl) (by kernel_rfl) (fun _ _ _ h => h) (Or.inl ⟨by rfl, ?_⟩) ?_
            rotate_left 1
            focus (intro w hSw; (try dsimp only at hSw); go_simp; (try with_reducible rfl))
            try simp only [List.getElem_toArray, List.getElem_cons_succ, List.getElem_cons_zero, Act.put, List.setIfInBounds_toArray, List.set_cons_zero, List.set_cons_succ]
            refine Rv.comp (i := 3) (v := ?_) rfl (by kernel_rfl) (by kernel_rfl) (by kernel_rfl) (fun _ _ _ h => h) (Or.inl ⟨by rfl, ?_⟩) ?_
            rotate_left 1
            focus (intro w hSw; (try dsimp only at hSw); go_simp; (try with_reducible rfl))
            try simp only [List.getElem_toArray, List.getElem_cons_succ, List.getElem_cons_zero, Act.put, List.setIfInBounds_toArray, List.set_cons_zero, List.set_cons_succ]
            refine Rv.take (i := 4) (v := ?_) rfl (by kernel_rfl) (by kernel_rfl) (by kernel_rfl) (by kernel_rfl) (fun _ _ _ h => h) (Or.inl ⟨by rfl, ?_⟩) (by assumption) ?_
            rotate_left 1
            focus (intro w hSw; (try dsimp only at hSw); go_simp; (try with_reducible rfl))
            try simp only [List.getElem_toArray, List.getElem_cons_succ, List.getElem_cons_zero, Act.put, List.setIfInBounds_toArray, List.set_cons_zero, List.set_cons_succ]
            refine Rv.comp (i := 5) (v := ?_) rfl (by kernel_rfl) (by kernel_rfl) (by kernel_rfl) (fun _ _ _ h => h) (Or.inl ⟨by rfl, ?_⟩) ?_
            rotate_left 1
            focus (intro w hSw; (try dsimp only at hSw); go_simp; (try with_reducible rfl))
            try simp only [List.getElem_toArray, List.getElem_cons_succ, List.getElem_cons_zero, Act.put, List.setIfInBounds_toArray, List.set_cons_zero, List.set_cons_succ]
            refine Rv.comp (i := 6) (v := ?_) rfl (by kernel_rfl) (by kernel_rfl) (by kernel_rfl) (fun _ _ _ h => h) (Or.inl ⟨by rfl, ?_⟩) ?_
            rotate_left 1
            focus (intro w hSw; (try dsimp only at hSw); go_simp; (try with_reducible rfl))
            try simp only [List.getElem_toArray, List.getElem_cons_succ, List.getElem_cons_zero, Act.put, List.setIfInBounds_toArray, List.set_cons_zero, List.set_cons_succ]
            refine Rv.take (i := 7) (v := ?_) rfl (by kernel_rfl) (by kernel_rfl) (by kernel_rfl) (by kernel_rfl) (fun _ _ _ h => h) (Or.inl ⟨by rfl, ?_⟩) (by assumption) ?_
            rotate_left 1
            focus (intro w hSw; (try dsimp only at hSw); go_simp; (try with_reducible rfl))
            try simp only [List.getElem_toArray, List.getElem_cons_succ, List.getElem_cons_zero, Act.put, List.setIfInBounds_toArray, List.set_cons_zero, List.set_cons_succ]
            refine Rv.comp (i := 8) (v := ?_) rfl (by kernel_rfl) (by kernel_rfl) (by kernel_rfl) (fun _ _ _ h => h) (Or.inl ⟨by rfl, ?_⟩) ?_
            rotate_left 1
            focus (intro w hSw; (try dsimp only at hSw); go_simp; (try with_reducible rfl))
            try simp only [List.getElem_toArray, List.getElem_cons_succ, List.getElem_cons_zero, Act.put, List.setIfInBounds_toArray, List.set_cons_zero, List.set_cons_succ]
            refine Rv.take (i := 9) (v := ?_) rfl (by kernel_rfl) (by kernel_rfl) (by kernel_rfl) (by kernel_rfl) (fun _ _ _ h => h) (Or.inl ⟨by rfl, ?_⟩) (by assumption) ?_
            rotate_left 1
            focus (intro w hSw; (try dsimp only at hSw); go_simp; (try with_reducible rfl))
            try simp only [List.getElem_toArray, List.getElem_cons_succ, List.getElem_cons_zero, Act.put, List.setIfInBounds_toArray, List.set_cons_zero, List.set_cons_succ]
            refine Rv.comp (i := 10) (v := ?_) rfl (by kernel_rfl) (by kernel_rfl) (by kernel_rfl) (fun _ _ _ h => h) (Or.inl ⟨by rfl, ?_⟩) ?_
            rotate_left 1
            focus (intro w hSw; (try dsimp only at hSw); go_simp; (try with_reducible rfl))
            try simp only [List.getElem_toArray, List.getElem_cons_succ, List.getElem_cons_zero, Act.put, List.setIfInBounds_toArray, List.set_cons_zero, List.set_cons_succ]
            refine Rv.comp (i := 11) (v := ?_) rfl (by kernel_rfl) (by kernel_rfl) (by kernel_rfl) (fun _ _ _ h => h) (Or.inl ⟨by rfl, ?_⟩) ?_
            rotate_left 1
            focus (intro w hSw; (try dsimp only at hSw); go_simp; (try with_reducible rfl))
            try simp only [List.getElem_toArray, List.getElem_cons_succ, List.getElem_cons_zero, Act.put, List.setIfInBounds_toArray, List.set_cons_zero, List.set_cons_succ]
            refine Rv.comp (i := 12) (v := ?_) rfl (by kernel_rfl) (by kernel_rfl) (by kernel_rfl) (fun _ _ _ h => h) (Or.inl ⟨by rfl, ?_⟩) ?_
            rotate_left 1
            focus (intro w hSw; (try dsimp only at hSw); go_simp; (try with_reducible rfl))
            try simp only [List.getElem_toArray, List.getElem_cons_succ, List.getElem_cons_zero, Act.put, List.setIfInBounds_toArray, List.set_cons_zero, List.set_cons_succ]
            refine Rv.comp (i := 13) (v := ?_) rfl (by kernel_rfl) (by kernel_rfl) (by kernel_rfl) (fun _ _ _ h => h) (Or.inl ⟨by rfl, ?_⟩) ?_
            rotate_left 1
            focus (intro w hSw; (try dsimp only at hSw); go_simp; (try with_reducible rfl))
            try simp only [List.getElem_toArray, List.getElem_cons_succ, List.getElem_cons_zero, Act.put, List.setIfInBounds_toArray, List.set_cons_zero, List.set_cons_succ]
            refine Rv.take (i := 14) (v := ?_) rfl (by kernel_rfl) (by kernel_rfl) (by kernel_rfl) (by kernel_rfl) (fun _ _ _ h => h) (Or.inl ⟨by rfl, ?_⟩) (by assumption) ?_
            rotate_left 1
            focus (intro w hSw; (try dsimp only at hSw); go_simp; (try with_reducible rfl))
            try simp only [List.getElem_toArray, List.getElem_cons_succ, List.getElem_cons_zero, Act.put, List.setIfInBounds_toArray, List.set_cons_zero, List.set_cons_succ]
            refine Rv.comp (i := 15) (v := ?_) rfl (by kernel_rfl) (by kernel_rfl) (by kernel_rfl) (fun _ _ _ h => h) (Or.inl ⟨by rfl, ?_⟩) ?_
            rotate_left 1
            focus (intro w hSw; (try dsimp only at hSw); go_simp; (try with_reducible rfl))
            try simp only [List.getElem_toArray, List.getElem_cons_succ, List.getElem_cons_zero, Act.put, List.setIfInBounds_toArray, List.set_cons_zero, List.set_cons_succ]
            refine Rv.take (i := 16) (v := ?_) rfl (by kernel_rfl) (by kernel_rfl) (by kernel_rfl) (by kernel_rfl) (fun _ _ _ h => h) (Or.inl ⟨by rfl, ?_⟩) (by assumption) ?_
            rotate_left 1
            focus (intro w hSw; (try dsimp only at hSw); go_simp; (try with_reducible rfl))
            try simp only [List.getElem_toArray, List.getElem_cons_succ, List.getElem_cons_zero, Act.put, List.setIfInBounds_toArray, List.set_cons_zero, List.set_cons_succ]
            refine Rv.one (i := 17) rfl (by kernel_rfl) (fun K hK => ?_)
            go_simp
            refine (HCALL.out wj.drew).mono ?_
            rintro e wk ⟨rfl, b2⟩
            have b2' : Below wj.heap.size wj wk := of_drew b2
            have hHeld := HS.out wk b2'
            have HBK := hide (HBJ.out.trans (b2'.mono HBJ.out.size))
            clear b2 b2' HS
            refine hK.out _ _ hHeld ?_
            clear hK K
            try simp only [List.getElem_toArray, List.getElem_cons_succ, List.getElem_cons_zero, Act.put, List.setIfInBounds_toArray, List.set_cons_zero, List.set_cons_succ]
            refine Rv.comp (i := 18) (v := ?_) rfl (by kernel_rfl) (by kernel_rfl) (by kernel_rfl) (fun _ _ _ h => h) (Or.inl ⟨by rfl, ?_⟩) ?_
            rotate_left 1
            focus (intro w hSw; (try dsimp only at hSw); go_simp; (try with_reducible rfl))
            try simp only [List.getElem_toArray, List.getElem_cons_succ, List.getElem_cons_zero, Act.put, List.setIfInBounds_toArray, List.set_cons_zero, List.set_cons_succ]
            refine Rv.done (by kernel_rfl) ?_ _
            clear hHeld
            go_wp2_with fail
            go_meet
            exact ⟨by rw [HM1.out, HRES.out], HBK.out⟩
        case rest =>
          obtain ⟨rfl, hbx⟩ := hcut
          have HBX := hide hbx
          clear hbx HBJ
          cases ht : (decide (0 < j) && bf k (L.getD (j - 1) 0))
          · have HST := hide (pos_stop ht)
            clear ht
            go_upto_region 11 with (fail)
            have HRW := hide (HROW.out.call HBX.out)
            have hkc := HROW.out.cap.1
            have hjc : j ≤ c := by omega
            have HP1 := hide (fun V (hV : Below wc.heap.size wc V) => (show Rd V V.heap.size (some ⟨ga, 0, none⟩) (ints .i64 (toI (L.take j))) from by
              have h := ((HRW.out.prefix hj).rd.below hV).more hV.size
              rw [Nat.mul_one] at h
              simpa only [toI, ints, List.map_take] using h))
            have HP2 := hide (fun V (hV : Below wc.heap.size wc V) => (show Rd V V.heap.size (if c = j then some ⟨ga, 0, none⟩ else some ⟨ga, j, none⟩) (ints .i64 (toI (L.drop j))) from by
              have h := rd_tail (j := j) (jj := j) (size := 1) ((HRW.out.rd.below hV).more hV.size) (by simp [HLN.out]) hkc (by omega)
              simpa only [toI, ints, List.map_drop] using h))
            refine Rv.start (fun _ => True) (fun _ => false) (by kernel_rfl) ?_
            have hHeld : True := trivial
            refine Rv.comp (i := 1) (v := ?_) rfl (by kernel_rfl) (by kernel_rfl) (by kernel_rfl) (fun _ _ _ h => h) (Or.inl ⟨by rfl, ?_⟩) ?_
            rotate_left 1
            focus (intro w hSw; (try dsimp only at hSw); go_simp; (try with_reducible rfl))
            try simp only [List.getElem_toArray, List.getElem_cons_succ, List.getElem_cons_zero, Act.put, List.setIfInBounds_toArray, List.set_cons_zero, List.set_cons_succ]
            refine Rv.comp (i := 2) (v := ?_) rfl (by kernel_rfl) (by kernel_rfl) (by kernel_rfl) (fun _ _ _ h => h) (Or.inl ⟨by rfl, ?_⟩) ?_
            rotate_left 1
            focus (intro w hSw; (try dsimp only at hSw); go_simp; (try with_reducible rfl))
            try simp only [List.getElem_toArray, List.getElem_cons_succ, List.getElem_cons_zero, Act.put, List.setIfInBounds_toArray, List.set_cons_zero, List.set_cons_succ]
            refine Rv.comp (i := 3) (v := ?_) rfl (by kernel_rfl) (by kernel_rfl) (by kernel_rfl) (fun _ _ _ h => h) (Or.inl ⟨by rfl, ?_⟩) ?_
            rotate_left 1
            focus (intro w hSw; (try dsimp only at hSw); go_simp; (try with_reducible rfl))
            try simp only [List.getElem_toArray, List.getElem_cons_succ, List.getElem_cons_zero, Act.put, List.setIfInBounds_toArray, List.set_cons_zero, List.set_cons_succ]
            refine Rv.comp (i := 5) (v := ?_) rfl (by kernel_rfl) (by kernel_rfl) (by kernel_rfl) (fun _ _ _ h => h) (Or.inl ⟨by rfl, ?_⟩) ?_
            rotate_left 1
            focus (intro w hSw; (try dsimp only at hSw); go_simp; (try with_reducible rfl))
            try simp only [List.getElem_toArray, List.getElem_cons_succ, List.getElem_cons_zero, Act.put, List.setIfInBounds_toArray, List.set_cons_zero, List.set_cons_succ]
            refine Rv.comp (i := 8) (v := ?_) rfl (by kernel_rfl) (by kernel_rfl) (by kernel_rfl) (fun _ _ _ h => h) (Or.inl ⟨by rfl, ?_⟩) ?_
            rotate_left 1
            focus (intro w hSw; (try dsimp only at hSw); go_simp; (try with_reducible rfl))
            try simp only [List.getElem_toArray, List.getElem_cons_succ, List.getElem_cons_zero, Act.put, List.setIfInBounds_toArray, List.set_cons_zero, List.set_cons_succ]
            refine Rv.comp (i := 9) (v := ?_) rfl (by kernel_rfl) (by kernel_rfl) (by kernel_rfl) (fun _ _ _ h => h) (Or.inl ⟨by rfl, ?_⟩) ?_
            rotate_left 1
            focus (intro w hSw; (try dsimp only at hSw); go_simp; (try with_reducible rfl))
            try simp only [List.getElem_toArray, List.getElem_cons_succ, List.getElem_cons_zero, Act.put, List.setIfInBounds_toArray, List.set_cons_zero, List.set_cons_succ]
            refine Rv.comp (i := 10) (v := ?_) rfl (by kernel_rfl) (by kernel_rfl) (by kernel_rfl) (fun _ _ _ h => h) (Or.inl ⟨by rfl, ?_⟩) ?_
            rotate_left 1
            focus (intro w hSw; (try dsimp only at hSw); go_simp; (try with_reducible rfl))
            try simp only [List.getElem_toArray, List.getElem_cons_succ, List.getElem_cons_zero, Act.put, List.setIfInBounds_toArray, List.set_cons_zero, List.set_cons_succ]
            have HA2 := hide (show (if c = j then some (⟨ga, 0, none⟩ : Addr) else some ⟨ga, j, none⟩) = none → c - j = 0 from fun h => by split at h <;> cases h)
            generalize (if c = j then some (⟨ga, 0, none⟩ : Addr) else some ⟨ga, j, none⟩) = A2 at *
            have HLK := hide (show (L.take j).length = j ∧ (L.drop j).length = k - j from ⟨by rw [List.length_take, HLN.out]; omega, by rw [List.length_drop, HLN.out]⟩)
            refine Rv.two (i := 0) (j := 6) rfl rfl (by kernel_rfl) (fun K hK => ?p0) (fun K hK => ?p6)
            case' p0 =>
              go_simp
              refine hK.out _ _ hHeld ?_
              clear hK K
              try simp only [List.getElem_toArray, List.getElem_cons_succ, List.getElem_cons_zero, Act.put, List.setIfInBounds_toArray, List.set_cons_zero, List.set_cons_succ]
              refine Rv.two (i := 4) (j := 6) rfl rfl (by kernel_rfl) (fun K hK => ?q4) (fun K hK => ?q6)
            case' q4 =>
              refine step_app (by rfl) _ _ 67 rfl 3 i0 (.int .i64 0) 1 8 Tryz.underlying67 HI.out.1 HI.out.2.1 HI.out.2.2.1 HI.out.2.2.2 rfl (by decide) wc.heap.size _ 0 0 [] (by rfl) (Row.empty _ _ _ _ _) (Below.size (B := wc.heap.size) (by (repeat (first | with_reducible assumption | with_reducible exact Below.refl _ _ | with_reducible apply below_al | with_reducible apply below_dr | with_reducible apply below_dn)); done)) (some ⟨ga, 0, none⟩) j c (ints .i64 (toI (L.take j))) (by rfl) (HP1.out _ (by (repeat (first | with_reducible assumption | with_reducible exact Below.refl _ _ | with_reducible apply below_al | with_reducible apply below_dr | with_reducible apply below_dn)); done)) (by simp [HLK.out.1]) (fun h => by cases h) (one_ints _ _) (by unfold maxLen; omega) (by omega) ?_
              intro A5 n5 c5 w5 hn5 o5 g5 k5
              have hn5' : n5 = j := by omega
              clear hn5
              subst hn5'
              have HA5 := hide (show Row w5 wc.heap.size 3 1 A5 n5 c5 (ints .i64 (toI (L.take n5))) from by simpa using o5)
              have HWX := hide (show Below wc.heap.size wc w5 from below_tr (by (repeat (first | with_reducible assumption | with_reducible exact Below.refl _ _ | with_reducible apply below_al | with_reducible apply below_dr | with_reducible apply below_dn)); done) g5)
              clear o5 g5 k5
              refine hK.out _ _ hHeld ?_
              clear hK K
              try simp only [List.getElem_toArray, List.getElem_cons_succ, List.getElem_cons_zero, Act.put, List.setIfInBounds_toArray, List.set_cons_zero, List.set_cons_succ]
              refine Rv.one (i := 6) rfl (by kernel_rfl) (fun K hK => ?_)
              go_simp
              refine hK.out _ _ hHeld ?_
              clear hK K
              try simp only [List.getElem_toArray, List.getElem_cons_succ, List.getElem_cons_zero, Act.put, List.setIfInBounds_toArray, List.set_cons_zero, List.set_cons_succ]
              have HNC := hide (show (w5.alloc (.cells #[.int .i64 k] 3)).cell? ⟨w5.heap.size, 0, none⟩ = some (.int .i64 k) ∧ w5.heap.size < (w5.alloc (.cells #[.int .i64 k] 3)).heap.size from ⟨(Box.new w5 3 #[.int .i64 k]).cell 0, (Box.new w5 3 #[.int .i64 k]).lt⟩)
              have B6 : Below w5.heap.size w5 (w5.alloc (.cells #[.int .i64 k] 3)) := (by repeat (first | exact Below.refl _ _ | with_reducible assumption | (refine Below.drew ?_) | (refine Below.drewN ?_ _) | (refine Below.alloc ?_ (by simp; try omega) _) | (refine Below.setCell ?_ (by simp; try omega) _)))
              replace HWX := hide (HWX.out.trans (B6.mono HWX.out.size))
              replace HA5 := hide (HA5.out.call B6)
              clear B6
              generalize w5.alloc (.cells #[.int .i64 k] 3) = wX at *
              generalize w5.heap.size = N at *
            case' q6 =>
              go_simp
              refine hK.out _ _ hHeld ?_
              clear hK K
              try simp only [List.getElem_toArray, List.getElem_cons_succ, List.getElem_cons_zero, Act.put, List.setIfInBounds_toArray, List.set_cons_zero, List.set_cons_succ]
              have HNL := hide (show ((wc.alloc (.cells #[] 3)).alloc (.cells #[.int .i64 k] 3)).drew.cell? ⟨wc.heap.size + 1, 0, none⟩ = some (.int .i64 k) ∧ wc.heap.size + 1 < ((wc.alloc (.cells #[] 3)).alloc (.cells #[.int .i64 k] 3)).drew.heap.size from by
                have h := Box.new (wc.alloc (.cells #[] 3)) 3 #[.int .i64 k]
                rw [World.size_alloc] at h
                exact ⟨h.cell 0, h.lt⟩)
              refine Rv.one (i := 4) rfl (by kernel_rfl) (fun K hK => ?_)
              refine step_app (by rfl) _ _ 67 rfl 3 i0 (.int .i64 0) 1 8 Tryz.underlying67 HI.out.1 HI.out.2.1 HI.out.2.2.1 HI.out.2.2.2 rfl (by decide) wc.heap.size _ 0 0 [] (by rfl) (Row.empty _ _ _ _ _) (Below.size (B := wc.heap.size) (by (repeat (first | with_reducible assumption | with_reducible exact Below.refl _ _ | with_reducible apply below_al | with_reducible apply below_dr | with_reducible apply below_dn)); done)) (some ⟨ga, 0, none⟩) j c (ints .i64 (toI (L.take j))) (by rfl) (HP1.out _ (by (repeat (first | with_reducible assumption | with_reducible exact Below.refl _ _ | with_reducible apply below_al | with_reducible apply below_dr | with_reducible apply below_dn)); done)) (by simp [HLK.out.1]) (fun h => by cases h) (one_ints _ _) (by unfold maxLen; omega) (by omega) ?_
              intro A5 n5 c5 wX hn5 o5 g5 k5
              have hn5' : n5 = j := by omega
              clear hn5
              subst hn5'
              have HA5 := hide (show Row wX wc.heap.size 3 1 A5 n5 c5 (ints .i64 (toI (L.take n5))) from by simpa using o5)
              have HWX := hide (show Below wc.heap.size wc wX from below_tr (by (repeat (first | with_reducible assumption | with_reducible exact Below.refl _ _ | with_reducible apply below_al | with_reducible apply below_dr | with_reducible apply below_dn)); done) g5)
              have HNC := hide (show wX.cell? ⟨wc.heap.size + 1, 0, none⟩ = some (.int .i64 k) ∧ wc.heap.size + 1 < wX.heap.size from ⟨((below_tr (Below.refl _ _) g5).cell (p := ⟨wc.heap.size + 1, 0, none⟩) HNL.out.2).trans HNL.out.1, Nat.lt_of_lt_of_le HNL.out.2 g5.size⟩)
              clear o5 g5 k5 HNL
              refine hK.out _ _ hHeld ?_
              clear hK K
              try simp only [List.getElem_toArray, List.getElem_cons_succ, List.getElem_cons_zero, Act.put, List.setIfInBounds_toArray, List.set_cons_zero, List.set_cons_succ]
              generalize wc.heap.size + 1 = N at *
            case' p6 =>
              go_simp
              refine hK.out _ _ hHeld ?_
              clear hK K
              try simp only [List.getElem_toArray, List.getElem_cons_succ, List.getElem_cons_zero, Act.put, List.setIfInBounds_toArray, List.set_cons_zero, List.set_cons_succ]
              refine Rv.one (i := 0) rfl (by kernel_rfl) (fun K hK => ?_)
              go_simp
              refine hK.out _ _ hHeld ?_
              clear hK K
              try simp only [List.getElem_toArray, List.getElem_cons_succ, List.getElem_cons_zero, Act.put, List.setIfInBounds_toArray, List.set_cons_zero, List.set_cons_succ]
              have HNL := hide (show ((wc.alloc (.cells #[.int .i64 k] 3)).alloc (.cells #[] 3)).drew.cell? ⟨wc.heap.size, 0, none⟩ = some (.int .i64 k) ∧ wc.heap.size < ((wc.alloc (.cells #[.int .i64 k] 3)).alloc (.cells #[] 3)).drew.heap.size from by
                have h := (Box.new wc 3 #[.int .i64 k]).alloc (.cells #[] 3)
                exact ⟨h.cell 0, h.lt⟩)
              refine Rv.one (i := 4) rfl (by kernel_rfl) (fun K hK => ?_)
              refine step_app (by rfl) _ _ 67 rfl 3 i0 (.int .i64 0) 1 8 Tryz.underlying67 HI.out.1 HI.out.2.1 HI.out.2.2.1 HI.out.2.2.2 rfl (by decide) wc.heap.size _ 0 0 [] (by rfl) (Row.empty _ _ _ _ _) (Below.size (B := wc.heap.size) (by (repeat (first | with_reducible assumption | with_reducible exact Below.refl _ _ | with_reducible apply below_al | with_reducible apply below_dr | with_reducible apply below_dn)); done)) (some ⟨ga, 0, none⟩) j c (ints .i64 (toI (L.take j))) (by rfl) (HP1.out _ (by (repeat (first | with_reducible assumption | with_reducible exact Below.refl _ _ | with_reducible apply below_al | with_reducible apply below_dr | with_reducible apply below_dn)); done)) (by simp [HLK.out.1]) (fun h => by cases h) (one_ints _ _) (by unfold maxLen; omega) (by omega) ?_
              intro A5 n5 c5 wX hn5 o5 g5 k5
              have hn5' : n5 = j := by omega
              clear hn5
              subst hn5'
              have HA5 := hide (show Row wX wc.heap.size 3 1 A5 n5 c5 (ints .i64 (toI (L.take n5))) from by simpa using o5)
              have HWX := hide (show Below wc.heap.size wc wX from below_tr (by (repeat (first | with_reducible assumption | with_reducible exact Below.refl _ _ | with_reducible apply below_al | with_reducible apply below_dr | with_reducible apply below_dn)); done) g5)
              have HNC := hide (show wX.cell? ⟨wc.heap.size, 0, none⟩ = some (.int .i64 k) ∧ wc.heap.size < wX.heap.size from ⟨((below_tr (Below.refl _ _) g5).cell (p := ⟨wc.heap.size, 0, none⟩) HNL.out.2).trans HNL.out.1, Nat.lt_of_lt_of_le HNL.out.2 g5.size⟩)
              clear o5 g5 k5 HNL
              refine hK.out _ _ hHeld ?_
              clear hK K
              try simp only [List.getElem_toArray, List.getElem_cons_succ, List.getElem_cons_zero, Act.put, List.setIfInBounds_toArray, List.set_cons_zero, List.set_cons_succ]
              generalize hN : wc.heap.size = N at HNC ⊢
            all_goals
              refine Rv.one (i := 7) rfl (by kernel_rfl) (fun K hK => ?_)
              have hgeA := (fun q hq => (HA5.out.lt q hq).1)
              have HGA := hide hgeA
              clear hgeA
              refine step_app (by rfl) _ _ 67 rfl 3 i0 (.int .i64 0) 1 8 Tryz.underlying67 HI.out.1 HI.out.2.1 HI.out.2.2.1 HI.out.2.2.2 rfl (by decide) wc.heap.size A5 n5 c5 (ints .i64 (toI (L.take n5))) (by rfl) HA5.out HWX.out.size (some ⟨N, 0, none⟩) 1 1 [.int .i64 k] (by rfl) (B := N + 1) (fun i u hi => by
                have hi0 : i = 0 := by
                  rcases Nat.eq_zero_or_pos i with h | h
                  · exact h
                  · rw [List.getElem?_eq_none (by simp; omega)] at hi
                    cases hi
                subst hi0
                simp only [List.getElem?_cons_zero, Option.some.injEq] at hi
                subst hi
                exact ⟨N, 0, rfl, Nat.lt_succ_self _, HNC.out.1⟩) rfl (fun h => by cases h) oneI1 (by unfold maxLen; omega) (by omega) ?_
              intro A7 n7 c7 w7 hn7 o7 g7 k7
              have hn7' : n7 = n5 + 1 := hn7
              clear hn7
              subst hn7'
              have HW7 := hide (show Below wc.heap.size wc w7 from HWX.out.grown g7 HWX.out.size (fun q hq => HGA.out q hq))
              have HA7 := hide o7
              clear o7 g7 k7 HA5 HWX HGA HNC
              refine hK.out _ _ hHeld ?_
              clear hK K
              try simp only [List.getElem_toArray, List.getElem_cons_succ, List.getElem_cons_zero, Act.put, List.setIfInBounds_toArray, List.set_cons_zero, List.set_cons_succ]
              refine Rv.one (i := 11) rfl (by kernel_rfl) (fun K hK => ?_)
              refine step_app (by rfl) _ _ 67 rfl 3 i0 (.int .i64 0) 1 8 Tryz.underlying67 HI.out.1 HI.out.2.1 HI.out.2.2.1 HI.out.2.2.2 rfl (by decide) wc.heap.size A7 (n5 + 1) c7 _ (by rfl) HA7.out HW7.out.size A2 (k - n5) (c - n5) (ints .i64 (toI (L.drop n5))) (by rfl) (HP2.out _ HW7.out) (by simp [HLK.out.2]) HA2.out (one_ints _ _) (by unfold maxLen; omega) (by omega) ?_
              intro A9 n9 c9 w9 hn9 o9 g9 k9
              have hn9' : n9 = k + 1 := by omega
              clear hn9
              subst hn9'
              have HA9 := hide (show Row w9 wc.heap.size 3 1 A9 (k + 1) c9 (ints .i64 (toI (ord bf (k + 1)))) from by
                rw [HIN.out, ins, HPOS.out, HST.out]
                simpa [toI, ints] using o9)
              have HW9 := hide (show Below wc.heap.size wc w9 from HW7.out.grown g9 HW7.out.size (fun q hq => (HA7.out.lt q hq).1))
              clear o9 g9 k9 HA7 HW7
              refine hK.out _ _ hHeld ?_
              clear hK K
              try simp only [List.getElem_toArray, List.getElem_cons_succ, List.getElem_cons_zero, Act.put, List.setIfInBounds_toArray, List.set_cons_zero, List.set_cons_succ]
              refine Rv.comp (i := 12) (v := ?_) rfl (by kernel_rfl) (by kernel_rfl) (by kernel_rfl) (fun _ _ _ h => h) (Or.inl ⟨by rfl, ?_⟩) ?_
              rotate_left 1
              focus (intro w hSw; (try dsimp only at hSw); go_simp; (try with_reducible rfl))
              try simp only [List.getElem_toArray, List.getElem_cons_succ, List.getElem_cons_zero, Act.put, List.setIfInBounds_toArray, List.set_cons_zero, List.set_cons_succ]
              refine Rv.done (by kernel_rfl) ?_ _
              clear hHeld
              obtain ⟨g', hA', _, _, _, _⟩ := own_of HA9.out (by omega)
              subst hA'
              have HWZ := hide (HBX.out.trans (HW9.out.mono HBX.out.size))
              go_wp2_with fail
              refine ⟨⟨k + 1, g', c9, by omega, by go_num, by go_num, HA9.out.down (Nat.le_trans HB.out.size HBX.out.size), HO.out.call HWZ.out, HX.out.call HWZ.out, HV.out.call HWZ.out, HRR.out.call HWZ.out, HB.out.trans (HWZ.out.mono HB.out.size)⟩, by first | (simp [intOf]; done) | (simp [intOf]; omega)⟩
          · obtain ⟨m, rfl, hpm⟩ := pos_go ht
            have HPM := hide hpm
            clear ht hpm
            go_wp2_with fail
            refine ⟨⟨m, by omega, by go_num, by rw [HPOS.out, HPM.out], HBX.out⟩, by first | (simp [intOf]; done) | (simp [intOf]; omega)⟩
    · obtain rfl : k = o.ys.length := by omega
      have HORD := hide (show order o.ys = L by rw [order, HBF.out]; exact HLE.out)
      clear v0 HLE HIN HBF
      go_wp2_with (at_make; refine wpList_make_full _ rfl _ _ _ rfl w.heap.size 3 i0 (.int .i64 0) 1 Tryz.underlying67 HI.out.1 HI.out.2.1 HI.out.2.2.1 .i64 .i64 _ _ o.ys.length rfl rfl rfl rfl ?c1 ?c2 ?c3 ?_)
      case c1 => rw [HI.out.2.2.2]; omega
      case c2 => unfold maxLen; omega
      case c3 => exact HB.out.size
      intro w8 hto g8
      rw [zero_cells'] at hto
      have HTO := hide (show RowI w8 w.heap.size wr.heap.size o.ys.length o.ys.length (tl L 0) from by
        unfold RowI
        rw [tl, HLN.out]
        simpa [toI] using hto)
      have B8 : Below wr.heap.size wr w8 := (Below.refl _ _).grown g8 (Nat.le_refl _) (by intro k h; cases h)
      have HAP := hide (show ∀ q, blk (some ⟨ga, 0, none⟩) c = some q → q < wr.heap.size from fun q hq => (HROW.out.lt q hq).2)
      clear hto g8
      have HGT := hide HB.out.size
      replace HB := hide (HB.out.trans (B8.mono HB.out.size))
      replace HROW := hide (HROW.out.call B8)
      replace HO := hide (HO.out.call B8)
      replace HX := hide (HX.out.call B8)
      replace HV := hide (HV.out.call B8)
      replace HRR := hide (HRR.out.call B8)
      clear B8
      generalize wr.heap.size = gt at *
      go_wp2_with fail
      go_loopw [8] (fun i wi => ∃ (k : Nat), k ≤ o.ys.length ∧ i = .int .i64 k ∧ OwnO wi w.heap.size ⟨Aq, cq, ps, Y, yc, mid o.ys L k⟩ ∧ Row wi w.heap.size 3 1 (some ⟨ga, 0, none⟩) o.ys.length c (ints .i64 (toI L)) ∧ RowI wi w.heap.size gt o.ys.length o.ys.length (tl L k) ∧ Box wi X 31 #[.slice Aq ps.length cq, .slice Y o.ys.length yc] ∧ Box wi w.heap.size 31 #[.slice o.A o.ps.length o.c, .slice o.Y o.ys.length o.yc] ∧ Box wi R 31 #[.slice none 0 0, .slice none 0 0] ∧ Below w.heap.size w wi) (fun i _ => o.ys.length - (intOf i).toNat)
      case atStart => exact ⟨0, Nat.zero_le _, rfl, by rw [mid_zero]; exact HO.out, HROW.out, HTO.out, HX.out, HV.out, HRR.out, HB.out⟩
      case round =>
        clear HO HROW HTO HX HV HRR HB hk hlt hvl
        obtain ⟨k, hk, rfl, ho, hrow, hto, hx, hv, hrr, hb⟩ := hrel
        have HO := hide ho
        have HROW := hide hrow
        have HTO := hide hto
        have HX := hide hx
        have HV := hide hv
        have HRR := hide hrr
        have HB := hide hb
        clear ho hrow hto hx hv hrr hb
        by_cases hlt : k < o.ys.length
        · obtain ⟨g', hA, hca, hgal⟩ := HROW.out.at1 (i := k) (by rw [toI_len, HLN.out]; exact hlt)
          simp only [Option.some.injEq, Addr.mk.injEq, and_true] at hA
          subst hA
          rw [toI_getD] at hca
          have hjl : L.getD k 0 < o.ys.length := HLLT.out _ (by rw [List.getD_eq_getElem?_getD, List.getElem?_eq_getElem (by rw [HLN.out]; exact hlt)]; exact List.getElem_mem _)
          have HMS := hide (mid_succ o.ys L k HLN.out hlt)
          have HML := hide (mid_len o.ys L k HLN.out)
          have HTS := hide (show tl L (k + 1) = (tl L k).set (L.getD k 0) k from rfl)
          generalize hLJ : L.getD k 0 = j at *
          have HLJ := hide hLJ
          clear hLJ
          obtain ⟨b, off, hY, hbg, hc⟩ := (HR.out.2.below HB.out).row symbolC_len (by decide) hjl
          rw [← CObjValid.getD_at hjl dY] at hc
          generalize o.ys.getD j dY = z at *
          have hbw : b < wr.heap.size := Nat.lt_of_lt_of_le hbg HB.out.size
          obtain ⟨gy, hYq, hbgy, hgyl, hblk, hown⟩ := own_of HO.out.2 (by rw [HML.out]; omega)
          have hYq : Y = some ⟨gy, 0, none⟩ := hYq
          subst hYq
          obtain ⟨⟨q0, hq0⟩, f0⟩ := own_old hown (j := k * 4) (by simp only [HML.out]; omega)
          obtain ⟨⟨q1, hq1⟩, f1⟩ := own_old hown (j := k * 4 + 1) (by simp only [HML.out]; omega)
          obtain ⟨⟨q2, hq2⟩, f2⟩ := own_old hown (j := k * 4 + 2) (by simp only [HML.out]; omega)
          obtain ⟨⟨q3, hq3⟩, f3⟩ := own_old hown (j := k * 4 + 3) (by simp only [HML.out]; omega)
          have hc0 := hc 0 _ rfl
          have hc1 := hc 1 _ rfl
          have hc2 := hc 2 _ rfl
          have hc3 := hc 3 _ rfl
          simp only [Nat.add_zero] at hc0
          have x1 := HX.out.cell 1
          simp only [List.getElem?_toArray, List.getElem?_cons_zero, List.getElem?_cons_succ] at x1
          have v1 := HV.out.cell 1
          simp only [List.getElem?_toArray, List.getElem?_cons_zero, List.getElem?_cons_succ] at v1
          rw [hY] at v1
          have hxl := HX.out.lt
          have hvl := HV.out.lt
          have HHB := hide (And.intro hbgy hblk)
          have HHY := hide hY
          have HGX := hide (And.intro (HO.out.2.box HX.out (by decide) gy hblk) (And.intro (HO.out.2.box HV.out (by decide) gy hblk) (HO.out.2.box HRR.out (by decide) gy hblk)))
          have HGR := hide (fun q hq => apartT HROW.out HO.out.2 (by decide) q hq)
          have hTR : Row wr w.heap.size 3 1 (some ⟨gt, 0, none⟩) o.ys.length o.ys.length (ints .i64 (toI (tl L k))) := Row.own HTO.out
          have HGTO := hide (fun q hq => apartT hTR HO.out.2 (by decide) q hq)
          have HTX := hide (And.intro (own_box HTO.out HX.out (by decide) gt rfl) (And.intro (own_box HTO.out HV.out (by decide) gt rfl) (own_box HTO.out HRR.out (by decide) gt rfl)))
          have HTBK := hide (show blk (some ⟨gt, 0, none⟩) o.ys.length = some gt by unfold blk; rw [if_neg (by omega)]; rfl)
          clear hc hown hY hTR
          go_wp2_with fail
          refine Rv.start (fun W => W.cell? ⟨X, 1, none⟩ = some (.slice (some ⟨gy, 0, none⟩) o.ys.length yc) ∧ W.cell? ⟨w.heap.size, 1, none⟩ = some (.slice (some ⟨b, off, none⟩) o.ys.length o.yc) ∧ W.cell? ⟨ga, k, none⟩ = some (.int .i64 j) ∧ W.cell? ⟨b, off + j * 4, none⟩ = some (.string z.1) ∧ W.cell? ⟨b, off + j * 4 + 1, none⟩ = some (.int .i64 z.2.1) ∧ W.cell? ⟨b, off + j * 4 + 2, none⟩ = some (.int .i64 z.2.2.1) ∧ W.cell? ⟨b, off + j * 4 + 3, none⟩ = some (.int .i64 z.2.2.2)) (fun i => i == 12) (by kernel_rfl) ?_
          have hHeld : wr.drew.cell? ⟨X, 1, none⟩ = some (.slice (some ⟨gy, 0, none⟩) o.ys.length yc) ∧ wr.drew.cell? ⟨w.heap.size, 1, none⟩ = some (.slice (some ⟨b, off, none⟩) o.ys.length o.yc) ∧ wr.drew.cell? ⟨ga, k, none⟩ = some (.int .i64 j) ∧ wr.drew.cell? ⟨b, off + j * 4, none⟩ = some (.string z.1) ∧ wr.drew.cell? ⟨b, off + j * 4 + 1, none⟩ = some (.int .i64 z.2.1) ∧ wr.drew.cell? ⟨b, off + j * 4 + 2, none⟩ = some (.int .i64 z.2.2.1) ∧ wr.drew.cell? ⟨b, off + j * 4 + 3, none⟩ = some (.int .i64 z.2.2.2) := ⟨x1, v1, hca, hc0, hc1, hc2, hc3⟩
          refine Rv.comp (i := 0) (v := ?_) rfl (by kernel_rfl) (by kernel_rfl) (by kernel_rfl) (fun _ _ _ h => h) (Or.inl ⟨by rfl, ?_⟩) ?_
          rotate_left 1
          focus (intro w hSw; (try dsimp only at hSw); go_simp; (try with_reducible rfl))
          try simp only [List.getElem_toArray, List.getElem_cons_succ, List.getElem_cons_zero, Act.put, List.setIfInBounds_toArray, List.set_cons_zero, List.set_cons_succ]
          refine Rv.take (i := 1) (v := ?_) rfl (by kernel_rfl) (by kernel_rfl) (by kernel_rfl) (by kernel_rfl) (fun _ _ _ h => h) (Or.inl ⟨by rfl, ?_⟩) (by assumption) ?_
          rotate_left 1
          focus (intro w hSw; (try dsimp only at hSw); go_simp; (try with_reducible rfl))
          try simp only [List.getElem_toArray, List.getElem_cons_succ, List.getElem_cons_zero, Act.put, List.setIfInBounds_toArray, List.set_cons_zero, List.set_cons_succ]
          refine Rv.comp (i := 2) (v := ?_) rfl (by kernel_rfl) (by kernel_rfl) (by kernel_rfl) (fun _ _ _ h => h) (Or.inl ⟨by rfl, ?_⟩) ?_
          rotate_left 1
          focus (intro w hSw; (try dsimp only at hSw); go_simp; (try with_reducible rfl))
          try simp only [List.getElem_toArray, List.getElem_cons_succ, List.getElem_cons_zero, Act.put, List.setIfInBounds_toArray, List.set_cons_zero, List.set_cons_succ]
          refine Rv.comp (i := 3) (v := ?_) rfl (by kernel_rfl) (by kernel_rfl) (by kernel_rfl) (fun _ _ _ h => h) (Or.inl ⟨by rfl, ?_⟩) ?_
          rotate_left 1
          focus (intro w hSw; (try dsimp only at hSw); go_simp; (try with_reducible rfl))
          try simp only [List.getElem_toArray, List.getElem_cons_succ, List.getElem_cons_zero, Act.put, List.setIfInBounds_toArray, List.set_cons_zero, List.set_cons_succ]
          refine Rv.take (i := 4) (v := ?_) rfl (by kernel_rfl) (by kernel_rfl) (by kernel_rfl) (by kernel_rfl) (fun _ _ _ h => h) (Or.inl ⟨by rfl, ?_⟩) (by assumption) ?_
          rotate_left 1
          focus (intro w hSw; (try dsimp only at hSw); go_simp; (try with_reducible rfl))
          try simp only [List.getElem_toArray, List.getElem_cons_succ, List.getElem_cons_zero, Act.put, List.setIfInBounds_toArray, List.set_cons_zero, List.set_cons_succ]
          refine Rv.comp (i := 5) (v := ?_) rfl (by kernel_rfl) (by kernel_rfl) (by kernel_rfl) (fun _ _ _ h => h) (Or.inl ⟨by rfl, ?_⟩) ?_
          rotate_left 1
          focus (intro w hSw; (try dsimp only at hSw); go_simp; (try with_reducible rfl))
          try simp only [List.getElem_toArray, List.getElem_cons_succ, List.getElem_cons_zero, Act.put, List.setIfInBounds_toArray, List.set_cons_zero, List.set_cons_succ]
          refine Rv.comp (i := 6) (v := ?_) rfl (by kernel_rfl) (by kernel_rfl) (by kernel_rfl) (fun _ _ _ h => h) (Or.inl ⟨by rfl, ?_⟩) ?_
          rotate_left 1
          focus (intro w hSw; (try dsimp only at hSw); go_simp; (try with_reducible rfl))
          try simp only [List.getElem_toArray, List.getElem_cons_succ, List.getElem_cons_zero, Act.put, List.setIfInBounds_toArray, List.set_cons_zero, List.set_cons_succ]
          refine Rv.comp (i := 7) (v := ?_) rfl (by kernel_rfl) (by kernel_rfl) (by kernel_rfl) (fun _ _ _ h => h) (Or.inl ⟨by rfl, ?_⟩) ?_
          rotate_left 1
          focus (intro w hSw; (try dsimp only at hSw); go_simp; (try with_reducible rfl))
          try simp only [List.getElem_toArray, List.getElem_cons_succ, List.getElem_cons_zero, Act.put, List.setIfInBounds_toArray, List.set_cons_zero, List.set_cons_succ]
          refine Rv.take (i := 8) (v := ?_) rfl (by kernel_rfl) (by kernel_rfl) (by kernel_rfl) (by kernel_rfl) (fun _ _ _ h => h) (Or.inl ⟨by rfl, ?_⟩) (by assumption) ?_
          rotate_left 1
          focus (intro w hSw; (try dsimp only at hSw); go_simp; (try with_reducible rfl))
          try simp only [List.getElem_toArray, List.getElem_cons_succ, List.getElem_cons_zero, Act.put, List.setIfInBounds_toArray, List.set_cons_zero, List.set_cons_succ]
          refine Rv.comp (i := 9) (v := ?_) rfl (by kernel_rfl) (by kernel_rfl) (by kernel_rfl) (fun _ _ _ h => h) (Or.inl ⟨by rfl, ?_⟩) ?_
          rotate_left 1
          focus (intro w hSw; (try dsimp only at hSw); go_simp; (try with_reducible rfl))
          try simp only [List.getElem_toArray, List.getElem_cons_succ, List.getElem_cons_zero, Act.put, List.setIfInBounds_toArray, List.set_cons_zero, List.set_cons_succ]
          refine Rv.take (i := 10) (v := ?_) rfl (by kernel_rfl) (by kernel_rfl) (by kernel_rfl) (by kernel_rfl) (fun _ _ _ h => h) (Or.inl ⟨by rfl, ?_⟩) (by assumption) ?_
          rotate_left 1
          focus (intro w hSw; (try dsimp only at hSw); go_simp; (try with_reducible rfl))
          try simp only [List.getElem_toArray, List.getElem_cons_succ, List.getElem_cons_zero, Act.put, List.setIfInBounds_toArray, List.set_cons_zero, List.set_cons_succ]
          refine Rv.comp (i := 11) (v := ?_) rfl (by kernel_rfl) (by kernel_rfl) (by kernel_rfl) (fun _ _ _ h => h) (Or.inl ⟨by rfl, ?_⟩) ?_
          rotate_left 1
          focus (intro w hSw; (try dsimp only at hSw); go_simp; (try with_reducible rfl))
          try simp only [List.getElem_toArray, List.getElem_cons_succ, List.getElem_cons_zero, Act.put, List.setIfInBounds_toArray, List.set_cons_zero, List.set_cons_succ]
          clear hHeld x1 v1 hca hc0 hc1 hc2 hc3 hgal
          refine Rv.last (i := 12) rfl (by kernel_rfl) (by rfl) (fun K hK => ?_)
          go_simp
          refine hK.out _ _ ?_
          clear hK K
          try simp only [List.getElem_toArray, List.getElem_cons_succ, List.getElem_cons_zero, Act.put, List.setIfInBounds_toArray, List.set_cons_zero, List.set_cons_succ]
          refine Rv.done (by kernel_rfl) ?_ _
          have HO2 := hide (show OwnO (putY wr gy (k * 4) z).drew w.heap.size ⟨Aq, cq, ps, some ⟨gy, 0, none⟩, yc, mid o.ys L (k + 1)⟩ from by rw [HMS.out]; exact (OwnO.storeY HO.out k (by rw [HML.out]; exact hlt) z).call (below_dr (Below.refl _ _)))
          have HROW2 := hide (show Row (putY wr gy (k * 4) z).drew w.heap.size 3 1 (some ⟨ga, 0, none⟩) o.ys.length c (ints .i64 (toI L)) from (HROW.out.keep (fun q hq => putY_block wr gy (k * 4) z q (fun e => HGR.out q hq (by rw [e]; exact HHB.out.2)))).call (below_dr (Below.refl _ _)))
          have HTO2 := hide (show RowI (putY wr gy (k * 4) z).drew w.heap.size gt o.ys.length o.ys.length (tl L k) from RowI.call (own_keep HTO.out (fun q hq => putY_block wr gy (k * 4) z q (fun e => by
            have hq' : q = gt := by simpa [Value.ownBlock] using hq.symm
            subst hq'
            exact HGTO.out _ HTBK.out (by rw [e]; exact HHB.out.2)))) (below_dr (Below.refl _ _)))
          have HX2 := hide (show Box (putY wr gy (k * 4) z).drew X _ _ from (box_putY HX.out (Ne.symm HGX.out.1)).drew)
          have HV2 := hide (show Box (putY wr gy (k * 4) z).drew w.heap.size _ _ from (box_putY HV.out (Ne.symm HGX.out.2.1)).drew)
          have HRR2 := hide (show Box (putY wr gy (k * 4) z).drew R _ _ from (box_putY HRR.out (Ne.symm HGX.out.2.2)).drew)
          have HB2 := hide (show Below w.heap.size w (putY wr gy (k * 4) z).drew from (putY_below HB.out HHB.out.1).drew)
          unfold putY at HO2 HROW2 HTO2 HX2 HV2 HRR2 HB2
          clear HO HROW HTO HX HV HRR HB f0 f1 f2 f3 hq0 hq1 hq2 hq3 hxl hvl
          generalize (((((wr.setCell ⟨gy, k * 4, none⟩ (.string z.1)).setCell ⟨gy, k * 4 + 1, none⟩ (.int .i64 z.2.1)).setCell ⟨gy, k * 4 + 2, none⟩ (.int .i64 z.2.2.1)).setCell ⟨gy, k * 4 + 3, none⟩ (.int .i64 z.2.2.2)).drew) = w9 at *
          obtain ⟨g', hA, hca, hgal⟩ := HROW2.out.at1 (i := k) (by rw [toI_len, HLN.out]; exact hlt)
          simp only [Option.some.injEq, Addr.mk.injEq, and_true] at hA
          subst hA
          rw [toI_getD, HLJ.out] at hca
          have htc := HTO2.out.cell hjl
          have htf := HTO2.out.frozen j
          have htl := HTO2.out.lt.2
          have HO3 := hide (show OwnO (w9.setCell ⟨gt, j, none⟩ (.int .i64 k)) _ _ from HO2.out.keep (fun q hq => Below.heap_setCell _ _ _ q (oblk_ne HO2.out (Row.own HTO2.out) HTBK.out q hq)))
          have HROW3 := hide (HROW2.out.set (a := ⟨gt, j, none⟩) (fun q hq e => absurd (HAP.out q hq) (by rw [e]; exact Nat.lt_irrefl _)) (.int .i64 k))
          have HTO3 := hide (show RowI (w9.setCell ⟨gt, j, none⟩ (.int .i64 k)) w.heap.size gt o.ys.length o.ys.length (tl L (k + 1)) from by rw [HTS.out]; exact HTO2.out.put j k)
          have HX3 := hide (box_setFar (i := j) (u := .int .i64 k) HX2.out (Ne.symm HTX.out.1))
          have HV3 := hide (box_setFar (i := j) (u := .int .i64 k) HV2.out (Ne.symm HTX.out.2.1))
          have HRR3 := hide (box_setFar (i := j) (u := .int .i64 k) HRR2.out (Ne.symm HTX.out.2.2))
          have HB3 := hide (HB2.out.setCell (p := ⟨gt, j, none⟩) HGT.out (.int .i64 k))
          clear HO2 HROW2 HTO2 HX2 HV2 HRR2 HB2
          go_wp2_with fail
          refine ⟨⟨k + 1, by omega, by go_num, HO3.out, HROW3.out, HTO3.out, HX3.out, HV3.out, HRR3.out, HB3.out⟩, by first | (simp [intOf]; done) | (simp [intOf]; omega)⟩
        · obtain rfl : k = o.ys.length := by omega
          rw [mid_all _ _ _ HLN.out (by omega)] at HO
          have HYN := hide (show (L.map fun i => o.ys.getD i dY).length = o.ys.length by simp [HLN.out])
          rw [HORD.out] at HDD
          generalize hzs : (L.map fun i => o.ys.getD i dY) = zs at *
          clear hzs
          have HND := hide (show L.Nodup ∧ (∀ x ∈ L, x < L.length) ∧ ∀ x, x < o.ys.length → x ∈ L from by
            rw [← HORD.out]
            exact ⟨ord_nodup _ _, fun x hx => by rw [HORD.out, HLN.out]; exact ord_lt _ hx, fun x hx => ord_mem _ hx⟩)
          have HTX := hide (fun x (hx : x < o.ys.length) => (show (tl L o.ys.length).getD x 0 = L.idxOf x from by rw [← HLN.out]; exact tl_idx HND.out.1 HND.out.2.1 (HND.out.2.2 x hx)))
          generalize tl L o.ys.length = T at *
          clear HV HND HROW
          go_wp2_with fail
          go_loopw [9] (fun i wi => ∃ (k : Nat), k ≤ ps.length ∧ i = .int .i64 k ∧ OwnO wi w.heap.size ⟨Aq, cq, (ps.take k).map (renP L) ++ ps.drop k, Y, yc, zs⟩ ∧ RowI wi w.heap.size gt o.ys.length o.ys.length T ∧ Box wi X 31 #[.slice Aq ps.length cq, .slice Y o.ys.length yc] ∧ Box wi R 31 #[.slice none 0 0, .slice none 0 0] ∧ Below w.heap.size w wi) (fun i _ => ps.length - (intOf i).toNat)
          case atStart => exact ⟨0, Nat.zero_le _, rfl, by simpa using HO.out, HTO.out, HX.out, HRR.out, HB.out⟩
          case round =>
            clear HO HTO HX HRR HB hk hlt
            obtain ⟨k, hk, rfl, ho, hto, hx, hrr, hb⟩ := hrel
            by_cases hlt : k < ps.length
            · have hdr : ps.drop k = ps[k] :: ps.drop (k + 1) := List.drop_eq_getElem_cons hlt
              rw [hdr] at ho
              have htk : (ps.take (k + 1)).map (renP L) = (ps.take k).map (renP L) ++ [renP L ps[k]] := by rw [take_succ hlt, List.map_append]; rfl
              have hl1 : ((ps.take k).map (renP L)).length = k := by simp; omega
              have HFP := hide (HFX.out _ (List.getElem_mem hlt))
              have HTK := hide (And.intro htk hl1)
              clear htk hl1 hdr
              generalize (ps.take k).map (renP L) = l1 at *
              generalize ps[k] = p at *
              generalize hl2 : ps.drop (k + 1) = l2 at *
              have HL2 := hide hl2
              clear hl2
              have HO := hide ho
              have HTO := hide hto
              have HX := hide hx
              have HRR := hide hrr
              have HB := hide hb
              have x0 := HX.out.cell 0
              simp only [List.getElem?_toArray, List.getElem?_cons_zero, List.getElem?_cons_succ] at x0
              have hxl := HX.out.lt
              clear ho hto hx hrr hb
              have hfl := HFP.out.1
              go_wp2_with fail
              clear x0 hxl
              go_loopw [10] (fun i wi => ∃ (j : Nat), j ≤ p.fs.length ∧ i = .int .i64 j ∧ OwnO wi w.heap.size ⟨Aq, cq, l1 ++ renJ L p j :: l2, Y, yc, zs⟩ ∧ RowI wi w.heap.size gt o.ys.length o.ys.length T ∧ Box wi X 31 #[.slice Aq ps.length cq, .slice Y o.ys.length yc] ∧ Box wi R 31 #[.slice none 0 0, .slice none 0 0] ∧ Below w.heap.size w wi) (fun i _ => p.fs.length - (intOf i).toNat)
              case atStart => exact ⟨0, Nat.zero_le _, rfl, by rw [renJ_zero]; exact HO.out, HTO.out, HX.out, HRR.out, HB.out⟩
              case round =>
                clear HO HTO HX HRR HB
                obtain ⟨j, hj, rfl, ho, hto, hx, hrr, hb⟩ := hrel
                obtain ⟨b, hA0, _, hbg, hc⟩ := row_own ho.1
                have hAq : Aq = some ⟨b, 0, none⟩ := hA0
                clear hA0
                subst hAq
                rw [HTK.out.2, renJ_cells] at hc
                have hc5 := hc 5 _ rfl
                have x0 := hx.cell 0
                simp only [List.getElem?_toArray, List.getElem?_cons_zero, List.getElem?_cons_succ] at x0
                have hxl := hx.lt
                clear hc
                by_cases hjl : j < p.fs.length
                · have hq : RwS wr w.heap.size (renJ L p j) := ho.1.2.1 _ (by simp)
                  have hjr : j < (renJ L p j).fs.length := by rw [renJ_len]; exact hjl
                  obtain ⟨gf, hF0, hbgf, hgfl, hblk, hown⟩ := own_of hq.2 (by omega)
                  have hF : p.F = some ⟨gf, 0, none⟩ := hF0
                  clear hF0
                  obtain ⟨bf', of, hF1, _, hcf⟩ := Rd.row (xs := (renJ L p j).fs) fixupC_len (by decide) hq.rd.2 hjr
                  have hF1 : p.F = some ⟨bf', of, none⟩ := hF1
                  rw [hF] at hF1
                  simp only [Option.some.injEq, Addr.mk.injEq, and_true] at hF1
                  obtain ⟨rfl, rfl⟩ := hF1
                  have hat := renJ_at L p j hjl
                  rw [List.getElem?_eq_getElem hjr] at hat
                  injection hat with hat
                  rw [hat] at hcf
                  have hc2 := hcf 2 _ rfl
                  rw [Nat.zero_add] at hc2
                  have hfx := HFP.out.2 _ (List.getElem_mem hjl)
                  have HST := hide (OwnO.storeF ho (hF : (renJ L p j).F = _) j p.fs[j] (renJ_at L p j hjl) ((L.idxOf p.fs[j].2.2.1.toNat : Nat)))
                  have HSU := hide (renJ_succ L p j hjl)
                  have hf0 := World.ownsRow.frozenAt hown (j * 4 + 2)
                  have HN := hide (And.intro (hq.2.box hx (by decide) gf hblk) (hq.2.box hrr (by decide) gf hblk))
                  have HGR := hide (show gt ≠ gf from fun e => oblk_ne ho (Row.own hto) (show blk (some ⟨gt, 0, none⟩) o.ys.length = some gt by unfold blk; rw [if_neg (by omega)]; rfl) gf (.inl (.inr ⟨_, by simp, .inr hblk⟩)) e.symm)
                  have HBK := hide (And.intro hblk hbgf)
                  rw [hF] at hc5
                  have HRN := hide (show renum L p.fs[j] = (p.fs[j].1, p.fs[j].2.1, ((L.idxOf p.fs[j].2.2.1.toNat : Nat) : Int), p.fs[j].2.2.2) from rfl)
                  have HTO := hide hto
                  have HX := hide hx
                  have HRR := hide hrr
                  have HB := hide hb
                  generalize p.fs[j] = f at *
                  obtain ⟨f0, f1, f2, f3⟩ := f
                  simp only at hfx hc2
                  obtain ⟨xn, rfl⟩ := Int.eq_ofNat_of_zero_le hfx.1
                  have hxn : xn < o.ys.length := by omega
                  have htc := hto.cell hxn
                  rw [HTX.out xn hxn] at htc
                  simp only [Int.toNat_natCast] at HST HRN
                  generalize L.idxOf xn = xi at *
                  clear ho hto hx hrr hb hq hcf hat hown hjr hF hF1 hblk hfx
                  go_wp2_with fail
                  refine Rv.start (fun W => W.cell? ⟨X, 0, none⟩ = some (.slice (some ⟨b, 0, none⟩) ps.length cq) ∧ W.cell? ⟨b, k * 6 + 5, none⟩ = some (.slice (some ⟨gf, 0, none⟩) p.fs.length p.fc) ∧ W.cell? ⟨gt, xn, none⟩ = some (.int .i64 xi)) (fun i => i == 13) (by kernel_rfl) ?_
                  have hHeld : wr.drew.cell? ⟨X, 0, none⟩ = some (.slice (some ⟨b, 0, none⟩) ps.length cq) ∧ wr.drew.cell? ⟨b, k * 6 + 5, none⟩ = some (.slice (some ⟨gf, 0, none⟩) p.fs.length p.fc) ∧ wr.drew.cell? ⟨gt, xn, none⟩ = some (.int .i64 xi) := ⟨x0, hc5, htc⟩
                  refine Rv.comp (i := 0) (v := ?_) rfl (by kernel_rfl) (by kernel_rfl) (by kernel_rfl) (fun _ _ _ h => h) (Or.inl ⟨by rfl, ?_⟩) ?_
                  rotate_left 1
                  focus (intro w hSw; (try dsimp only at hSw); go_simp; (try with_reducible rfl))
                  try simp only [List.getElem_toArray, List.getElem_cons_succ, List.getElem_cons_zero, Act.put, List.setIfInBounds_toArray, List.set_cons_zero, List.set_cons_succ]
                  refine Rv.take (i := 1) (v := ?_) rfl (by kernel_rfl) (by kernel_rfl) (by kernel_rfl) (by kernel_rfl) (fun _ _ _ h => h) (Or.inl ⟨by rfl, ?_⟩) (by assumption) ?_
                  rotate_left 1
                  focus (intro w hSw; (try dsimp only at hSw); go_simp; (try with_reducible rfl))
                  try simp only [List.getElem_toArray, List.getElem_cons_succ, List.getElem_cons_zero, Act.put, List.setIfInBounds_toArray, List.set_cons_zero, List.set_cons_succ]
                  refine Rv.comp (i := 2) (v := ?_) rfl (by kernel_rfl) (by kernel_rfl) (by kernel_rfl) (fun _ _ _ h => h) (Or.inl ⟨by rfl, ?_⟩) ?_
                  rotate_left 1
                  focus (intro w hSw; (try dsimp only at hSw); go_simp; (try with_reducible rfl))
                  try simp only [List.getElem_toArray, List.getElem_cons_succ, List.getElem_cons_zero, Act.put, List.setIfInBounds_toArray, List.set_cons_zero, List.set_cons_succ]
                  refine Rv.comp (i := 3) (v := ?_) rfl (by kernel_rfl) (by kernel_rfl) (by kernel_rfl) (fun _ _ _ h => h) (Or.inl ⟨by rfl, ?_⟩) ?_
                  rotate_left 1
                  focus (intro w hSw; (try dsimp only at hSw); go_simp; (try with_reducible rfl))
                  try simp only [List.getElem_toArray, List.getElem_cons_succ, List.getElem_cons_zero, Act.put, List.setIfInBounds_toArray, List.set_cons_zero, List.set_cons_succ]
                  refine Rv.comp (i := 4) (v := ?_) rfl (by kernel_rfl) (by kernel_rfl) (by kernel_rfl) (fun _ _ _ h => h) (Or.inl ⟨by rfl, ?_⟩) ?_
                  rotate_left 1
                  focus (intro w hSw; (try dsimp only at hSw); go_simp; (try with_reducible rfl))
                  try simp only [List.getElem_toArray, List.getElem_cons_succ, List.getElem_cons_zero, Act.put, List.setIfInBounds_toArray, List.set_cons_zero, List.set_cons_succ]
                  refine Rv.take (i := 5) (v := ?_) rfl (by kernel_rfl) (by kernel_rfl) (by kernel_rfl) (by kernel_rfl) (fun _ _ _ h => h) (Or.inl ⟨by rfl, ?_⟩) (by assumption) ?_
                  rotate_left 1
                  focus (intro w hSw; (try dsimp only at hSw); go_simp; (try with_reducible rfl))
                  try simp only [List.getElem_toArray, List.getElem_cons_succ, List.getElem_cons_zero, Act.put, List.setIfInBounds_toArray, List.set_cons_zero, List.set_cons_succ]
                  refine Rv.comp (i := 6) (v := ?_) rfl (by kernel_rfl) (by kernel_rfl) (by kernel_rfl) (fun _ _ _ h => h) (Or.inl ⟨by rfl, ?_⟩) ?_
                  rotate_left 1
                  focus (intro w hSw; (try dsimp only at hSw); go_simp; (try with_reducible rfl))
                  try simp only [List.getElem_toArray, List.getElem_cons_succ, List.getElem_cons_zero, Act.put, List.setIfInBounds_toArray, List.set_cons_zero, List.set_cons_succ]
                  refine Rv.comp (i := 7) (v := ?_) rfl (by kernel_rfl) (by kernel_rfl) (by kernel_rfl) (fun _ _ _ h => h) (Or.inl ⟨by rfl, ?_⟩) ?_
                  rotate_left 1
                  focus (intro w hSw; (try dsimp only at hSw); go_simp; (try with_reducible rfl))
                  try simp only [List.getElem_toArray, List.getElem_cons_succ, List.getElem_cons_zero, Act.put, List.setIfInBounds_toArray, List.set_cons_zero, List.set_cons_succ]
                  refine Rv.comp (i := 8) (v := ?_) rfl (by kernel_rfl) (by kernel_rfl) (by kernel_rfl) (fun _ _ _ h => h) (Or.inl ⟨by rfl, ?_⟩) ?_
                  rotate_left 1
                  focus (intro w hSw; (try dsimp only at hSw); go_simp; (try with_reducible rfl))
                  try simp only [List.getElem_toArray, List.getElem_cons_succ, List.getElem_cons_zero, Act.put, List.setIfInBounds_toArray, List.set_cons_zero, List.set_cons_succ]
                  refine Rv.comp (i := 9) (v := ?_) rfl (by kernel_rfl) (by kernel_rfl) (by kernel_rfl) (fun _ _ _ h => h) (Or.inl ⟨by rfl, ?_⟩) ?_
                  rotate_left 1
                  focus (intro w hSw; (try dsimp only at hSw); go_simp; (try with_reducible rfl))
                  try simp only [List.getElem_toArray, List.getElem_cons_succ, List.getElem_cons_zero, Act.put, List.setIfInBounds_toArray, List.set_cons_zero, List.set_cons_succ]
                  refine Rv.take (i := 10) (v := ?_) rfl (by kernel_rfl) (by kernel_rfl) (by kernel_rfl) (by kernel_rfl) (fun _ _ _ h => h) (Or.inl ⟨by rfl, ?_⟩) (by assumption) ?_
                  rotate_left 1
                  focus (intro w hSw; (try dsimp only at hSw); go_simp; (try with_reducible rfl))
                  try simp only [List.getElem_toArray, List.getElem_cons_succ, List.getElem_cons_zero, Act.put, List.setIfInBounds_toArray, List.set_cons_zero, List.set_cons_succ]
                  refine Rv.comp (i := 11) (v := ?_) rfl (by kernel_rfl) (by kernel_rfl) (by kernel_rfl) (fun _ _ _ h => h) (Or.inl ⟨by rfl, ?_⟩) ?_
                  rotate_left 1
                  focus (intro w hSw; (try dsimp only at hSw); go_simp; (try with_reducible rfl))
                  try simp only [List.getElem_toArray, List.getElem_cons_succ, List.getElem_cons_zero, Act.put, List.setIfInBounds_toArray, List.set_cons_zero, List.set_cons_succ]
                  refine Rv.comp (i := 12) (v := ?_) rfl (by kernel_rfl) (by kernel_rfl) (by kernel_rfl) (fun _ _ _ h => h) (Or.inl ⟨by rfl, ?_⟩) ?_
                  rotate_left 1
                  focus (intro w hSw; (try dsimp only at hSw); go_simp; (try with_reducible rfl))
                  try simp only [List.getElem_toArray, List.getElem_cons_succ, List.getElem_cons_zero, Act.put, List.setIfInBounds_toArray, List.set_cons_zero, List.set_cons_succ]
                  clear hHeld x0 hc5 htc
                  refine Rv.last (i := 13) rfl (by kernel_rfl) (by rfl) (fun K hK => ?_)
                  go_simp
                  refine hK.out _ _ ?_
                  clear hK K
                  try simp only [List.getElem_toArray, List.getElem_cons_succ, List.getElem_cons_zero, Act.put, List.setIfInBounds_toArray, List.set_cons_zero, List.set_cons_succ]
                  refine Rv.done (by kernel_rfl) ?_ _
                  go_wp2_with fail
                  refine ⟨⟨j + 1, by omega, by go_num, by rw [HSU.out, HRN.out]; exact HST.out.call (below_dr (Below.refl _ _)), RowI.call (own_setFar HTO.out (a := ⟨gf, j * 4 + 2, none⟩) (fun q hq e => HGR.out (by
                    have hq' : q = gt := by simpa [Value.ownBlock] using hq.symm
                    rw [← hq']
                    exact e)) _) (below_dr (Below.refl _ _)), (box_setFar HX.out (Ne.symm HN.out.1)).drew, (box_setFar HRR.out (Ne.symm HN.out.2)).drew, (HB.out.setCell (p := ⟨gf, j * 4 + 2, none⟩) HBK.out.2 _).drew⟩, by first | (simp [intOf]; done) | (simp [intOf]; omega)⟩
                · rw [renJ_all L p (by omega)] at ho
                  have HO := hide ho
                  have HTO := hide hto
                  have HX := hide hx
                  have HRR := hide hrr
                  have HB := hide hb
                  clear ho hto hx hrr hb
                  go_wp2_with fail
                  refine ⟨⟨k + 1, by omega, by go_num, by rw [HTK.out.1, HL2.out, List.append_assoc]; exact HO.out, HTO.out, HX.out, HRR.out, HB.out⟩, by first | (simp [intOf]; done) | (simp [intOf]; omega)⟩
            · have e : (ps.take k).map (renP L) ++ ps.drop k = ps.map (renP L) := by rw [List.take_of_length_le (by omega), List.drop_of_length_le (by omega), List.append_nil]
              rw [e] at ho
              have HFIN := hide (CObject.ret_object ho hb (by
                rintro j ((hj | ⟨x, hx', hj⟩) | hj)
                · exact ho.1.1.box hrr (by decide) j hj
                · exact (ho.1.2.1 x hx').box hrr (by decide) (by decide) j hj
                · exact ho.2.box hrr (by decide) j hj) (Nat.le_of_lt hVR))
              have y0 := hrr.cell 0
              have y1 := hrr.cell 1
              have yf0 := hrr.frozen 0
              have yf1 := hrr.frozen 1
              have hrl := hrr.lt
              have x0 := hx.cell 0
              have x1 := hx.cell 1
              have hxl := hx.lt
              simp only [List.getElem?_toArray, List.getElem?_cons_zero, List.getElem?_cons_succ] at y0 y1 x0 x1
              have kk := (hrr.set 0 (.slice Aq ps.length cq)).set 1 (.slice Y o.ys.length yc)
              have k0 := kk.cell 0
              have k1 := kk.cell 1
              simp only [List.setIfInBounds_toArray, List.set_cons_zero, List.set_cons_succ, List.getElem?_toArray, List.getElem?_cons_zero, List.getElem?_cons_succ] at k0 k1
              clear kk ho hto hx hrr hb e
              go_wp2_with fail
              refine bodyPost_ret (v := OV.v ⟨Aq, cq, ps.map (renP L), Y, yc, zs⟩) (by simp [results, Tryz.results14, go_sem, OV.v, k0, k1, HYN.out]) rfl ?_
              rw [HDD.out]
              have h := HFIN.out
              simp only [List.length_map, HYN.out] at h
              exact h
end Go.Proofs.YtmglgjchemecjaaGreat.CSortS

