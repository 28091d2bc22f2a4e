/- The program's SortSymbols. -/
import Derived.Test.YtmglgjchemecjaaGreatFnExactLandmarksOfM11
import Derived.Laws.EntriesVeiled
set_option linter.unusedSimpArgs false
set_option linter.unusedVariables false
namespace Go.Proofs.YtmglgjchemecjaaGreat.CSort
set_option maxRecDepth 200000
open Go.ChangeShapes Go.WideShapes Go.ChangeAt Go.RowKit Kit CCode CFixups CSymbols PObj BObj CMarkRows PValid CSecValid CUses CCovers CObjValid PWarn CCopyS CCopyI BStore PClear PSort CCmp CCmpY CIns
theorem callF (zs : Array Value) (W : World) : (callFunc 43 zs).run Tryz.prog W = .ok (.enter 43 zs) W := by kernel_rfl
theorem toI_snoc (k : Nat) : ints .i64 (toI (List.range k)) ++ [.int .i64 k] = ints .i64 (toI (List.range (k + 1))) := by
  rw [List.range_succ]
  simp [toI, ints]
theorem CmpInv.grown {V G : Nat} {Y : Option Addr} {ys : List YD} {yc : Nat} {w w' : World} {row : Option Nat} (h : CmpInv V G Y ys yc w) (g : w.grownBy w' row) (hv : row ≠ some V) (hg : row ≠ some G) (hy : ∀ b off, Y = some ⟨b, off, none⟩ → row ≠ some b) : CmpInv V G Y ys yc w' := by
  obtain ⟨h1, h2, h3, h4, h5⟩ := h
  refine ⟨(World.cell?_of_block (g.block V h4 (Ne.symm hv))).trans h1, (World.cell?_of_block (g.block G h5 (Ne.symm hg))).trans h2, fun i u hi => ?_, Nat.lt_of_lt_of_le h4 g.size, Nat.lt_of_lt_of_le h5 g.size⟩
  obtain ⟨b, off, e, hb, hc⟩ := h3 i u hi
  exact ⟨b, off, e, Nat.lt_of_lt_of_le hb g.size, (World.cell?_of_block (g.block b hb (Ne.symm (hy b off e)))).trans hc⟩
/-- The numbers in the order of the symbols. -/
def SortedR (base : Nat) (A : Option Addr) (c : Nat) (ys : List YD) (w : World) (e : Ending) (w' : World) : Prop := e = .returned (.tuple #[]) ∧ Row w' base 3 1 A ys.length c (ints .i64 (toI (order ys))) ∧ w.grownBy w' (blk A c)
theorem sortOrder_any (V G base : Nat) (Y A : Option Addr) (ys : List YD) (yc c : Nat) (w : World) (hrow : Row w base 3 1 A ys.length c (ints .i64 (toI (List.range ys.length)))) (hi : CmpInv V G Y ys yc w) (hn : ys.length ≤ 12)
    (hv : blk A c ≠ some V) (hg : blk A c ≠ some G) (hy : ∀ b off, Y = some ⟨b, off, none⟩ → 0 < ys.length → blk A c ≠ some b) :
    Calls Tryz.prog 42 #[.slice A ys.length c, .func (.func 43) #[] #[.pointer (some ⟨G, 0, none⟩), .pointer (some ⟨V, 0, none⟩)]] w (SortedR base A c ys w) := by
  by_cases h0 : ys.length = 0
  · have e : ys = [] := List.eq_nil_of_length_eq_zero h0
    subst e
    refine (sortStable0_any A c _ w).mono ?_
    rintro e w' ⟨rfl, rfl⟩
    exact ⟨rfl, hrow, grown_refl _ _⟩
  · obtain ⟨g, hA, hb, hgl, hblk, hown⟩ := own_of hrow (by omega)
    subst hA
    have hord : order ys = ord (fun i j => decide (cmpY (ys.getD i dY) (ys.getD j dY) < 0)) ys.length := by
      unfold order
      congr 1
      funext i j
      rw [cmp_lt]
      rfl
    rw [hblk] at hv hg hy
    refine (sortStable_any 43 #[.pointer (some ⟨G, 0, none⟩), .pointer (some ⟨V, 0, none⟩)] callF (fun i j => cmpY (ys.getD i dY) (ys.getD j dY)) base g ys.length c w hown (by omega) (by omega) ?_ ?_).mono ?_
    · intro W hW i j hi' hj'
      have h := cmp_any V G Y ys yc i j hi' hj' W (CmpInv.grown hi hW hv hg (fun b off e => hy b off e (by omega))) (by omega)
      rw [← CObjValid.getD_at hi' dY, ← CObjValid.getD_at hj' dY] at h
      exact h
    · intro i j
      exact cmp_bd _ _
    · rintro e w' ⟨rfl, h1, h2⟩
      rw [← hord] at h1
      exact ⟨rfl, .inr h1, by rw [hblk]; exact h2⟩
theorem renJ_hd (L : List Nat) (p : SV) (j : Nat) : (renJ L p j).F = p.F ∧ (renJ L p j).fc = p.fc ∧ (renJ L p j).A = p.A := ⟨rfl, rfl, rfl⟩
theorem box_setFar {w : World} {X g i : Nat} {t : TypeId} {cs : Array Value} {u : Value} (h : Box w X t cs) (hne : X ≠ g) : Box (w.setCell ⟨g, i, none⟩ u) X t cs := (Below.heap_setCell w ⟨g, i, none⟩ u X hne).trans h
theorem box_putY {w : World} {X g i : Nat} {t : TypeId} {cs : Array Value} {z : YD} (h : Box w X t cs) (hne : X ≠ g) : Box (putY w g i z) X t cs := (putY_block w g i z X hne).trans h
def mid (ys : List YD) (L : List Nat) (k : Nat) : List YD := (L.take k).map (fun i => ys.getD i dY) ++ ys.drop k
theorem mid_zero (ys : List YD) (L : List Nat) : mid ys L 0 = ys := by simp [mid]
theorem mid_len (ys : List YD) (L : List Nat) (k : Nat) (h : L.length = ys.length) : (mid ys L k).length = ys.length := by simp [mid]; omega
theorem mid_succ (ys : List YD) (L : List Nat) (k : Nat) (h : L.length = ys.length) (hk : k < ys.length) : mid ys L (k + 1) = (mid ys L k).set k (ys.getD (L.getD k 0) dY) := by
  have h1 : L.take (k + 1) = L.take k ++ [L[k]] := take_succ (by omega)
  have h2 : ys.drop k = ys[k] :: ys.drop (k + 1) := List.drop_eq_getElem_cons hk
  have h3 : ((L.take k).map (fun i => ys.getD i dY)).length = k := by simp; omega
  have h4 : L.getD k 0 = L[k]'(by omega) := by rw [List.getD_eq_getElem?_getD, List.getElem?_eq_getElem (by omega)]; rfl
  unfold mid
  rw [List.set_append_right _ _ (by omega), h3, Nat.sub_self, h2, List.set_cons_zero, h1, List.map_append, List.append_assoc, h4]
  rfl
theorem mid_all (ys : List YD) (L : List Nat) (k : Nat) (h : L.length = ys.length) (hk : ys.length ≤ k) : mid ys L k = L.map (fun i => ys.getD i dY) := by
  rw [mid, List.take_of_length_le (by omega), List.drop_of_length_le hk, List.append_nil]
theorem toI_getD (L : List Nat) (k : Nat) : (toI L).getD k 0 = ((L.getD k 0 : Nat) : Int) := by
  unfold toI
  rw [List.getD_eq_getElem?_getD, List.getElem?_map, List.getD_eq_getElem?_getD]
  cases L[k]? <;> rfl
set_option maxHeartbeats 4000000 in
theorem sortSymbols_any (o : OV) (w : World) (hr : RdO w w.heap.size o) (hf : Fit o) (hn : Nils o) :
    Calls Tryz.prog 12 #[.agg #[.slice o.A o.ps.length o.c, .slice o.Y o.ys.length o.yc]] w (RetO (sortD o.d) w) := by
  obtain ⟨i0, hi1, hi2, hi3, hi4⟩ := info_parts CInts.info64
  have HI := hide (And.intro hi1 (And.intro hi2 (And.intro hi3 hi4)))
  clear hi1 hi2 hi3 hi4
  have HR := hide hr
  have HF := hide hf
  have HN := hide hn
  clear hr hf hn
  have HB := hide (show Below w.heap.size w ((w.alloc (.cells #[.slice o.A o.ps.length o.c, .slice o.Y o.ys.length o.yc] 31)).alloc (.cells #[.slice none 0 0, .slice none 0 0] 31)) from (by repeat (first | exact Below.refl _ _ | with_reducible assumption | (refine Below.drew ?_) | (refine Below.drewN ?_ _) | (refine Below.alloc ?_ (by simp; try omega) _) | (refine Below.setCell ?_ (by simp; try omega) _))))
  have HV := hide ((Box.new w 31 #[.slice o.A o.ps.length o.c, .slice o.Y o.ys.length o.yc]).alloc (.cells #[.slice none 0 0, .slice none 0 0] 31))
  have HR0 := (Box.new (w.alloc (.cells #[.slice o.A o.ps.length o.c, .slice o.Y o.ys.length o.yc] 31)) 31 #[.slice none 0 0, .slice none 0 0])
  simp only [World.size_alloc] at HR0
  have HRR := hide HR0
  clear HR0
  go_enter Tryz.func12, Tryz.ntmps12
  go_wp2_with fail
  generalize (w.alloc (.cells #[.slice o.A o.ps.length o.c, .slice o.Y o.ys.length o.yc] 31)).alloc (.cells #[.slice none 0 0, .slice none 0 0] 31) = w0 at *
  have hVR : w.heap.size < w.heap.size + 1 := by omega
  generalize w.heap.size + 1 = R at *
  refine (objectValid_any o w0 ((HR.out.below HB.out).more HB.out.size) HF.out).mono ?_
  rintro e w1 ⟨rfl, b1⟩
  replace HB := hide (HB.out.trans (b1.mono HB.out.size))
  replace HV := hide (HV.out.call b1)
  replace HRR := hide (HRR.out.call b1)
  clear b1
  cases hok : objOk o.d
  · have HVD := hide (sort_bad hok)
    have y0 := HRR.out.cell 0
    have y1 := HRR.out.cell 1
    simp only [List.getElem?_toArray, List.getElem?_cons_zero, List.getElem?_cons_succ] at y0 y1
    have yf0 := HRR.out.frozen 0
    have yf1 := HRR.out.frozen 1
    have hrl := HRR.out.lt
    have HFIN := hide (CObject.ret_object (w := w) (w1 := w1) (Y := R) (o := ⟨none, 0, [], none, 0, []⟩) ⟨⟨Row.empty _ _ _ _ _, (fun p hp => by cases hp), List.Pairwise.nil⟩, Row.empty _ _ _ _ _⟩ HB.out (by rintro k ((hk | ⟨p, hp, hk⟩) | hk) <;> first | (exact absurd hp List.not_mem_nil) | cases hk) (Nat.le_of_lt hVR))
    have kk := (HRR.out.set 0 (.slice none 0 0)).set 1 (.slice none 0 0)
    have k0 := kk.cell 0
    have k1 := kk.cell 1
    simp only [List.setIfInBounds_toArray, List.set_cons_zero, List.set_cons_succ, List.getElem?_toArray, List.getElem?_cons_zero, List.getElem?_cons_succ] at k0 k1
    clear kk hok
    go_wp2_with fail
    exact bodyPost_ret (v := OV.v ⟨none, 0, [], none, 0, []⟩) (by simp [results, Tryz.results12, go_sem, OV.v, k0, k1]) rfl (by rw [HVD.out]; exact HFIN.out)
  have HOK := hide hok
  have HAL := hide (obj_all hok)
  have hal := obj_all hok
  have hyl : o.ys.length ≤ 12 := by have := hal.2.1; simpa [OV.d] using this
  have HS2 := hide (show o.ps.length ≤ 100 ∧ o.ys.length ≤ 100 from by
    have h1 := hal.1
    simp only [OV.d, List.length_map] at h1
    omega)
  clear hal hok
  have x0 := HV.out.cell 0
  have x1 := HV.out.cell 1
  simp only [List.getElem?_toArray, List.getElem?_cons_zero, List.getElem?_cons_succ] at x0 x1
  have hvl := HV.out.lt
  go_wp2_with fail
  have B2 : Below w1.heap.size w1 (w1.alloc (.cells #[] 3)) := (by repeat (first | exact Below.refl _ _ | with_reducible assumption | (refine Below.drew ?_) | (refine Below.drewN ?_ _) | (refine Below.alloc ?_ (by simp; try omega) _) | (refine Below.setCell ?_ (by simp; try omega) _)))
  replace HB := hide (HB.out.trans (B2.mono HB.out.size))
  replace HV := hide (HV.out.call B2)
  replace HRR := hide (HRR.out.call B2)
  clear B2
  generalize w1.alloc (.cells #[] 3) = w2 at *
  generalize w1.heap.size = Z at *
  clear x0 x1 hvl
  go_loopw [3, 20] (fun s i wi => ∃ (k : Nat) (A : Option Addr) (c : Nat), k ≤ o.ys.length ∧ s = .slice A k c ∧ i = .int .i64 k ∧ Row wi w.heap.size 3 1 A k c (ints .i64 (toI (List.range k))) ∧ Box wi w.heap.size 31 #[.slice o.A o.ps.length o.c, .slice o.Y o.ys.length o.yc] ∧ Box wi R 31 #[.slice none 0 0, .slice none 0 0] ∧ Below w.heap.size w wi) (fun _ i _ => o.ys.length - (intOf i).toNat)
  case atStart => exact ⟨0, _, 0, Nat.zero_le _, rfl, rfl, Row.empty _ _ _ _ _, HV.out, HRR.out, HB.out⟩
  case round =>
    clear HV HRR HB
    obtain ⟨k, A, c, hk, rfl, rfl, ho, hv, hrr, hb⟩ := hrel
    have HO := hide ho
    have HV := hide hv
    have HRR := hide hrr
    have HB := hide hb
    clear ho hv hrr hb
    by_cases hlt : k < o.ys.length
    · have hsz := HB.out.size
      go_wp2_with (at_builtin; refine wpList_app (wr.alloc (.cells #[.int .i64 k] 3)) rfl (.tmp 23) (.tmp 25) 67 rfl 3 i0 (.int .i64 0) 1 8 Tryz.underlying67 HI.out.1 HI.out.2.1 HI.out.2.2.1 HI.out.2.2.2 rfl (by decide) w.heap.size A k c (ints .i64 (toI (List.range k))) rfl (HO.out.alloc _) ?hb (some ⟨wr.heap.size, 0, none⟩) 1 1 [.int .i64 k] rfl (rd_lit wr #[.int .i64 k] 3 _ rfl) rfl (fun h => by cases h) ?o1 ?n1 ?n2 ?_)
      case hb => simp; omega
      case o1 => exact oneI1
      case n1 => unfold maxLen; omega
      case n2 => omega
      intro A2 n2 c2 w3 hn2 o3 g3 k3
      subst hn2
      have HO3 := hide (show Row w3 w.heap.size 3 1 A2 (k + 1) c2 (ints .i64 (toI (List.range (k + 1)))) by rw [← toI_snoc]; exact o3)
      have HB3 := hide (below_step (base := w.heap.size) (w1 := w) (HB.out.alloc HB.out.size _) g3 (Nat.le_refl _) (fun k hk => (HO.out.lt k hk).1))
      have HV3 := hide ((HV.out.alloc (.cells #[.int .i64 k] 3)).grown g3 ((HO.out.alloc _).box (HV.out.alloc (.cells #[.int .i64 k] 3)) (by decide)))
      have HRR3 := hide ((HRR.out.alloc (.cells #[.int .i64 k] 3)).grown g3 ((HO.out.alloc _).box (HRR.out.alloc (.cells #[.int .i64 k] 3)) (by decide)))
      clear o3 g3 k3 HO HV HRR HB
      go_wp2_with fail
      refine ⟨⟨k + 1, A2, c2, by omega, by go_num, by go_num, HO3.out, HV3.out, HRR3.out, HB3.out⟩, by simp [intOf]; omega⟩
    · obtain rfl : k = o.ys.length := by omega
      go_wp2_with fail
      have B4 : Below wr.heap.size wr (wr.alloc (.cells #[.func (.func 41) #[] #[.pointer (some ⟨w.heap.size, 0, none⟩)]] 70)) := (by repeat (first | exact Below.refl _ _ | with_reducible assumption | (refine Below.drew ?_) | (refine Below.drewN ?_ _) | (refine Below.alloc ?_ (by simp; try omega) _) | (refine Below.setCell ?_ (by simp; try omega) _)))
      have HG := hide (Box.new wr 70 #[.func (.func 41) #[] #[.pointer (some ⟨w.heap.size, 0, none⟩)]])
      have HO4 := hide (HO.out.call B4)
      replace HB := hide (HB.out.trans (B4.mono HB.out.size))
      replace HV := hide (HV.out.call B4)
      replace HRR := hide (HRR.out.call B4)
      clear B4
      clear HO
      generalize wr.alloc (.cells #[.func (.func 41) #[] #[.pointer (some ⟨w.heap.size, 0, none⟩)]] 70) = w4 at *
      generalize wr.heap.size = G at *
      refine (sortOrder_any w.heap.size G w.heap.size o.Y A o.ys o.yc c w4 HO4.out ⟨HV.out.cell 1, HG.out.cell 0, (HR.out.2.below HB.out).more HB.out.size, HV.out.lt, HG.out.lt⟩ hyl ?_ ?_ ?_).mono ?_
      · intro h
        exact HO4.out.box HV.out (by decide) _ h rfl
      · intro h
        exact HO4.out.box HG.out (by decide) _ h rfl
      · intro b off hY hpos h
        have h1 := (HO4.out.lt b h).1
        obtain ⟨b', off', e', hb', _⟩ := HR.out.2.row symbolC_len (by decide) hpos
        rw [hY] at e'
        simp only [Option.some.injEq, Addr.mk.injEq, and_true] at e'
        omega
      rintro e w5 ⟨rfl, ho5, g5⟩
      have HO5 := hide ho5
      replace HB := hide (below_grown HB.out g5 HB.out.size (fun k hk => (HO4.out.lt k hk).1))
      replace HV := hide (HV.out.grown g5 (HO4.out.box HV.out (by decide)))
      replace HRR := hide (HRR.out.grown g5 (HO4.out.box HRR.out (by decide)))
      clear HO4 g5 ho5 HG
      have x0 := HV.out.cell 0
      have x1 := HV.out.cell 1
      simp only [List.getElem?_toArray, List.getElem?_cons_zero, List.getElem?_cons_succ] at x0 x1
      have hvl := HV.out.lt
      go_wp2_with fail
      refine (copyObject_any o w5 ((HR.out.below HB.out).more HB.out.size) HF.out HN.out HS2.out).mono ?_
      rintro e w6 ⟨⟨Aq, cq, ps, Y, yc, ys⟩, rfl, hd, hown, b6⟩
      have HO6 := hide (hown.down HB.out.size)
      have HQ6 := hide (show ∀ k, oblk ⟨Aq, cq, ps, Y, yc, ys⟩ k → w5.heap.size ≤ k from fun k hk => (hown.lt k hk).1)
      have HRLT := hide (show ∀ k, blk A c = some k → k < w5.heap.size from fun k hk => (HO5.out.lt k hk).2)
      replace HO5 := hide (HO5.out.call b6)
      replace HB := hide (HB.out.trans (b6.mono HB.out.size))
      replace HV := hide (HV.out.call b6)
      replace HRR := hide (HRR.out.call b6)
      clear b6
      have HPL := hide (show ps.map SV.d = o.ps.map SV.d from congrArg OD.ss hd)
      have hys : ys = o.ys := congrArg OD.ys hd
      subst hys
      have HDD := hide (show sortD o.d = ⟨(ps.map (renP (order o.ys))).map SV.d, (order o.ys).map fun i => o.ys.getD i dY⟩ by
        rw [← hd]
        exact sort_ok (by have := HOK.out; rw [← hd] at this; exact this))
      have hal := HAL.out
      rw [← hd] at hal
      have hpl : ps.length ≤ 8 := by simpa [OV.d] using hal.1
      have HFX := hide (show ∀ p ∈ ps, p.fs.length ≤ 6 ∧ ∀ f ∈ p.fs, 0 ≤ f.2.2.1 ∧ f.2.2.1 < o.ys.length from fun p hp => by
        have h := hal.2.2 p.d (List.mem_map_of_mem hp)
        exact ⟨h.1, fun f hf => (h.2.2 f hf).2⟩)
      clear hd hown hal HAL HS2 HOK HF HN x0 x1 hvl
      simp only [OV.v]
      go_wp2_with fail
      have B7 : Below w6.heap.size w6 (w6.alloc (.cells #[.slice Aq ps.length cq, .slice Y o.ys.length yc] 31)) := (by repeat (first | exact Below.refl _ _ | with_reducible assumption | (refine Below.drew ?_) | (refine Below.drewN ?_ _) | (refine Below.alloc ?_ (by simp; try omega) _) | (refine Below.setCell ?_ (by simp; try omega) _)))
      have HX := hide (Box.new w6 31 #[.slice Aq ps.length cq, .slice Y o.ys.length yc])
      have HRX := hide HRR.out.lt
      have HVX := hide HV.out.lt
      replace HO6 := hide (HO6.out.call B7)
      replace HO5 := hide (HO5.out.call B7)
      replace HB := hide (HB.out.trans (B7.mono HB.out.size))
      replace HV := hide (HV.out.call B7)
      replace HRR := hide (HRR.out.call B7)
      clear B7
      generalize w6.alloc (.cells #[.slice Aq ps.length cq, .slice Y o.ys.length yc] 31) = w7 at *
      generalize w6.heap.size = X at *
      have HLL := hide (show (order o.ys).length = o.ys.length from ord_len _ _)
      have HLT := hide (fun k (hk : k < o.ys.length) => (show (order o.ys).getD k 0 < o.ys.length from ord_get _ hk))
      go_loopw [36] (fun i wi => ∃ (k : Nat), k ≤ o.ys.length ∧ i = .int .i64 k ∧ OwnO wi w.heap.size ⟨Aq, cq, ps, Y, yc, mid o.ys (order o.ys) k⟩ ∧ Row wi w.heap.size 3 1 A o.ys.length c (ints .i64 (toI (order o.ys))) ∧ Box wi X 31 #[.slice Aq ps.length cq, .slice Y o.ys.length yc] ∧ Box wi w.heap.size 31 #[.slice o.A o.ps.length o.c, .slice o.Y o.ys.length o.yc] ∧ Box wi R 31 #[.slice none 0 0, .slice none 0 0] ∧ Below w.heap.size w wi) (fun i _ => o.ys.length - (intOf i).toNat)
      case atStart => exact ⟨0, Nat.zero_le _, rfl, by rw [mid_zero]; exact HO6.out, HO5.out, HX.out, HV.out, HRR.out, HB.out⟩
      case round =>
        clear HO6 HO5 HX HV HRR HB hk hlt
        obtain ⟨k, hk, rfl, ho, hrow, hx, hv, hrr, hb⟩ := hrel
        have HO := hide ho
        have HROW := hide hrow
        have HX := hide hx
        have HV := hide hv
        have HRR := hide hrr
        have HB := hide hb
        clear ho hrow hx hv hrr hb
        by_cases hlt : k < o.ys.length
        · obtain ⟨ga, hA, hca, hgal⟩ := HROW.out.at1 (i := k) (by rw [toI_len, HLL.out]; exact hlt)
          rw [toI_getD] at hca
          have hjl := HLT.out k hlt
          have HMS := hide (mid_succ o.ys (order o.ys) k HLL.out hlt)
          have HML := hide (mid_len o.ys (order o.ys) k HLL.out)
          generalize (order o.ys).getD k 0 = j at *
          obtain ⟨b, off, hY, hbg, hc⟩ := (HR.out.2.below HB.out).row symbolC_len (by decide) hjl
          rw [← CObjValid.getD_at hjl dY] at hc
          generalize o.ys.getD j dY = z at *
          have hbw : b < wr.heap.size := Nat.lt_of_lt_of_le hbg HB.out.size
          obtain ⟨gy, hYq, hbgy, hgyl, hblk, hown⟩ := own_of HO.out.2 (by rw [HML.out]; omega)
          have hYq : Y = some ⟨gy, 0, none⟩ := hYq
          subst hYq
          subst hA
          have o0 := own_old hown (j := k * 4) (by simp only [HML.out]; omega)
          have o1 := own_old hown (j := k * 4 + 1) (by simp only [HML.out]; omega)
          have o2 := own_old hown (j := k * 4 + 2) (by simp only [HML.out]; omega)
          have o3 := own_old hown (j := k * 4 + 3) (by simp only [HML.out]; omega)
          obtain ⟨⟨q0, hq0⟩, f0⟩ := o0
          obtain ⟨⟨q1, hq1⟩, f1⟩ := o1
          obtain ⟨⟨q2, hq2⟩, f2⟩ := o2
          obtain ⟨⟨q3, hq3⟩, f3⟩ := o3
          have hc0 := hc 0 _ rfl
          have hc1 := hc 1 _ rfl
          have hc2 := hc 2 _ rfl
          have hc3 := hc 3 _ rfl
          simp only [Nat.add_zero] at hc0
          have x1 := HX.out.cell 1
          simp only [List.getElem?_toArray, List.getElem?_cons_zero, List.getElem?_cons_succ] at x1
          have v1 := HV.out.cell 1
          simp only [List.getElem?_toArray, List.getElem?_cons_zero, List.getElem?_cons_succ] at v1
          rw [hY] at v1
          have hxl := HX.out.lt
          have hvl := HV.out.lt
          have HHB := hide (And.intro hbgy hblk)
          have HHY := hide hY
          have HGX := hide (And.intro (HO.out.2.box HX.out (by decide) gy hblk) (And.intro (HO.out.2.box HV.out (by decide) gy hblk) (HO.out.2.box HRR.out (by decide) gy hblk)))
          have HGR := hide (fun q hq => apartT HROW.out HO.out.2 (by decide) q hq)
          clear hc hown hY
          go_wp2_with fail
          refine Rv.start (fun W => W.cell? ⟨X, 1, none⟩ = some (.slice (some ⟨gy, 0, none⟩) o.ys.length yc) ∧ W.cell? ⟨w.heap.size, 1, none⟩ = some (.slice (some ⟨b, off, none⟩) o.ys.length o.yc) ∧ W.cell? ⟨b, off + j * 4, none⟩ = some (.string z.1) ∧ W.cell? ⟨b, off + j * 4 + 1, none⟩ = some (.int .i64 z.2.1) ∧ W.cell? ⟨b, off + j * 4 + 2, none⟩ = some (.int .i64 z.2.2.1) ∧ W.cell? ⟨b, off + j * 4 + 3, none⟩ = some (.int .i64 z.2.2.2)) (fun i => i == 9) (by kernel_rfl) ?_
          have hHeld : wr.drew.cell? ⟨X, 1, none⟩ = some (.slice (some ⟨gy, 0, none⟩) o.ys.length yc) ∧ wr.drew.cell? ⟨w.heap.size, 1, none⟩ = some (.slice (some ⟨b, off, none⟩) o.ys.length o.yc) ∧ wr.drew.cell? ⟨b, off + j * 4, none⟩ = some (.string z.1) ∧ wr.drew.cell? ⟨b, off + j * 4 + 1, none⟩ = some (.int .i64 z.2.1) ∧ wr.drew.cell? ⟨b, off + j * 4 + 2, none⟩ = some (.int .i64 z.2.2.1) ∧ wr.drew.cell? ⟨b, off + j * 4 + 3, none⟩ = some (.int .i64 z.2.2.2) := ⟨x1, v1, hc0, hc1, hc2, hc3⟩
          refine Rv.comp (i := 0) (v := ?_) rfl (by kernel_rfl) (by kernel_rfl) (by kernel_rfl) (fun _ _ _ h => h) (Or.inl ⟨by rfl, ?_⟩) ?_
          rotate_left 1
          focus (intro w hSw; (try dsimp only at hSw); go_simp; (try with_reducible rfl))
          try simp only [List.getElem_toArray, List.getElem_cons_succ, List.getElem_cons_zero, Act.put, List.setIfInBounds_toArray, List.set_cons_zero, List.set_cons_succ]
          refine Rv.take (i := 1) (v := ?_) rfl (by kernel_rfl) (by kernel_rfl) (by kernel_rfl) (by kernel_rfl) (fun _ _ _ h => h) (Or.inl ⟨by rfl, ?_⟩) (by assumption) ?_
          rotate_left 1
          focus (intro w hSw; (try dsimp only at hSw); go_simp; (try with_reducible rfl))
          try simp only [List.getElem_toArray, List.getElem_cons_succ, List.getElem_cons_zero, Act.put, List.setIfInBounds_toArray, List.set_cons_zero, List.set_cons_succ]
          refine Rv.comp (i := 2) (v := ?_) rfl (by kernel_rfl) (by kernel_rfl) (by kernel_rfl) (fun _ _ _ h => h) (Or.inl ⟨by rfl, ?_⟩) ?_
          rotate_left 1
          focus (intro w hSw; (try dsimp only at hSw); go_simp; (try with_reducible rfl))
          try simp only [List.getElem_toArray, List.getElem_cons_succ, List.getElem_cons_zero, Act.put, List.setIfInBounds_toArray, List.set_cons_zero, List.set_cons_succ]
          refine Rv.comp (i := 3) (v := ?_) rfl (by kernel_rfl) (by kernel_rfl) (by kernel_rfl) (fun _ _ _ h => h) (Or.inl ⟨by rfl, ?_⟩) ?_
          rotate_left 1
          focus (intro w hSw; (try dsimp only at hSw); go_simp; (try with_reducible rfl))
          try simp only [List.getElem_toArray, List.getElem_cons_succ, List.getElem_cons_zero, Act.put, List.setIfInBounds_toArray, List.set_cons_zero, List.set_cons_succ]
          refine Rv.take (i := 4) (v := ?_) rfl (by kernel_rfl) (by kernel_rfl) (by kernel_rfl) (by kernel_rfl) (fun _ _ _ h => h) (Or.inl ⟨by rfl, ?_⟩) (by assumption) ?_
          rotate_left 1
          focus (intro w hSw; (try dsimp only at hSw); go_simp; (try with_reducible rfl))
          try simp only [List.getElem_toArray, List.getElem_cons_succ, List.getElem_cons_zero, Act.put, List.setIfInBounds_toArray, List.set_cons_zero, List.set_cons_succ]
          refine Rv.comp (i := 5) (v := ?_) rfl (by kernel_rfl) (by kernel_rfl) (by kernel_rfl) (fun _ _ _ h => h) (Or.inl ⟨by rfl, ?_⟩) ?_
          rotate_left 1
          focus (intro w hSw; (try dsimp only at hSw); go_simp; (try with_reducible rfl))
          try simp only [List.getElem_toArray, List.getElem_cons_succ, List.getElem_cons_zero, Act.put, List.setIfInBounds_toArray, List.set_cons_zero, List.set_cons_succ]
          refine Rv.comp (i := 6) (v := ?_) rfl (by kernel_rfl) (by kernel_rfl) (by kernel_rfl) (fun _ _ _ h => h) (Or.inl ⟨by rfl, ?_⟩) ?_
          rotate_left 1
          focus (intro w hSw; (try dsimp only at hSw); go_simp; (try with_reducible rfl))
          try simp only [List.getElem_toArray, List.getElem_cons_succ, List.getElem_cons_zero, Act.put, List.setIfInBounds_toArray, List.set_cons_zero, List.set_cons_succ]
          refine Rv.take (i := 7) (v := ?_) rfl (by kernel_rfl) (by kernel_rfl) (by kernel_rfl) (by kernel_rfl) (fun _ _ _ h => h) (Or.inl ⟨by rfl, ?_⟩) (by assumption) ?_
          rotate_left 1
          focus (intro w hSw; (try dsimp only at hSw); go_simp; (try with_reducible rfl))
          try simp only [List.getElem_toArray, List.getElem_cons_succ, List.getElem_cons_zero, Act.put, List.setIfInBounds_toArray, List.set_cons_zero, List.set_cons_succ]
          refine Rv.comp (i := 8) (v := ?_) rfl (by kernel_rfl) (by kernel_rfl) (by kernel_rfl) (fun _ _ _ h => h) (Or.inl ⟨by rfl, ?_⟩) ?_
          rotate_left 1
          focus (intro w hSw; (try dsimp only at hSw); go_simp; (try with_reducible rfl))
          try simp only [List.getElem_toArray, List.getElem_cons_succ, List.getElem_cons_zero, Act.put, List.setIfInBounds_toArray, List.set_cons_zero, List.set_cons_succ]
          clear hHeld x1 v1 hc0 hc1 hc2 hc3
          refine Rv.last (i := 9) rfl (by kernel_rfl) (by rfl) (fun K hK => ?_)
          go_simp
          refine hK.out _ _ ?_
          clear hK K
          try simp only [List.getElem_toArray, List.getElem_cons_succ, List.getElem_cons_zero, Act.put, List.setIfInBounds_toArray, List.set_cons_zero, List.set_cons_succ]
          refine Rv.done (by kernel_rfl) ?_ _
          go_wp2_with fail
          refine ⟨⟨k + 1, by omega, by go_num, by rw [HMS.out]; exact (OwnO.storeY HO.out k (by rw [HML.out]; exact hlt) z).call (below_dr (Below.refl _ _)), (HROW.out.keep (fun q hq => putY_block wr gy (k * 4) z q (fun e => HGR.out q hq (by rw [e]; exact HHB.out.2)))).call (below_dr (Below.refl _ _)), (box_putY HX.out (Ne.symm HGX.out.1)).drew, (box_putY HV.out (Ne.symm HGX.out.2.1)).drew, (box_putY HRR.out (Ne.symm HGX.out.2.2)).drew, (putY_below HB.out HHB.out.1).drew⟩, by simp [intOf]; omega⟩
        · rw [mid_all _ _ _ HLL.out (by omega)] at HO
          have HYN := hide (show ((order o.ys).map fun i => o.ys.getD i dY).length = o.ys.length by simp [HLL.out])
          generalize hzs : ((order o.ys).map fun i => o.ys.getD i dY) = zs at *
          have HZS := hide hzs
          clear hzs
          have HIDX := hide (fun (f : FD) (V : World) (hV : Row V w.heap.size 3 1 A o.ys.length c (ints .i64 (toI (order o.ys)))) (h0 : 0 ≤ f.2.2.1) (h1 : f.2.2.1 < o.ys.length) => (show Calls Tryz.prog 48 #[.slice A o.ys.length c, .int .i64 f.2.2.1] V (Pure (.int .i64 ((order o.ys).idxOf f.2.2.1.toNat : Nat)) V) from by
            have h := index_any A (order o.ys) c f.2.2.1.toNat V hV.rd (by rw [HLL.out]; omega) (ord_mem _ (by omega))
            rw [HLL.out, Int.toNat_of_nonneg h0] at h
            exact h))
          generalize order o.ys = L at *
          have x0 := HX.out.cell 0
          simp only [List.getElem?_toArray, List.getElem?_cons_zero, List.getElem?_cons_succ] at x0
          have hxl := HX.out.lt
          clear HV
          go_wp2_with fail
          clear x0 hxl
          go_loopw [54] (fun i wi => ∃ (k : Nat), k ≤ ps.length ∧ i = .int .i64 k ∧ OwnO wi w.heap.size ⟨Aq, cq, (ps.take k).map (renP L) ++ ps.drop k, Y, yc, zs⟩ ∧ Row wi w.heap.size 3 1 A o.ys.length c (ints .i64 (toI L)) ∧ Box wi X 31 #[.slice Aq ps.length cq, .slice Y o.ys.length yc] ∧ Box wi R 31 #[.slice none 0 0, .slice none 0 0] ∧ Below w.heap.size w wi) (fun i _ => ps.length - (intOf i).toNat)
          case atStart => exact ⟨0, Nat.zero_le _, rfl, by simpa using HO.out, HROW.out, HX.out, HRR.out, HB.out⟩
          case round =>
            clear HO HROW HX HRR HB hk hlt
            obtain ⟨k, hk, rfl, ho, hrow, hx, hrr, hb⟩ := hrel
            by_cases hlt : k < ps.length
            · have hdr : ps.drop k = ps[k] :: ps.drop (k + 1) := List.drop_eq_getElem_cons hlt
              rw [hdr] at ho
              have htk : (ps.take (k + 1)).map (renP L) = (ps.take k).map (renP L) ++ [renP L ps[k]] := by rw [take_succ hlt, List.map_append]; rfl
              have hl1 : ((ps.take k).map (renP L)).length = k := by simp; omega
              have HFP := hide (HFX.out _ (List.getElem_mem hlt))
              have HTK := hide (And.intro htk hl1)
              clear htk hl1 hdr
              generalize (ps.take k).map (renP L) = l1 at *
              generalize ps[k] = p at *
              generalize hl2 : ps.drop (k + 1) = l2 at *
              have HL2 := hide hl2
              clear hl2
              obtain ⟨b, off, hA0, hbg, hc⟩ := row_at ho.1.rd
              have hAq : Aq = some ⟨b, off, none⟩ := hA0
              clear hA0
              rw [HTK.out.2] at hc
              have hc0 := hc 0 _ rfl
              have hc1 := hc 1 _ rfl
              have hc2 := hc 2 _ rfl
              have hc3 := hc 3 _ rfl
              have hc4 := hc 4 _ rfl
              have hc5 := hc 5 _ rfl
              simp only [Nat.add_zero] at hc0
              have HO := hide ho
              have HROW := hide hrow
              have HX := hide hx
              have HRR := hide hrr
              have HB := hide hb
              have HAA := hide hAq
              clear ho hrow hx hrr hb hc
              rw [hAq]
              clear hAq
              have hfl := HFP.out.1
              go_wp2_with fail
              have B8 : Below wr.heap.size wr (wr.alloc (.cells #[.string p.nm, .int .i64 p.kd, .int .i64 p.al, .slice p.A p.zs.length p.c, .int .i64 p.sz, .slice p.F p.fs.length p.fc] 77)) := (by repeat (first | exact Below.refl _ _ | with_reducible assumption | (refine Below.drew ?_) | (refine Below.drewN ?_ _) | (refine Below.alloc ?_ (by simp; try omega) _) | (refine Below.setCell ?_ (by simp; try omega) _)))
              have HS := hide (Box.new wr 77 #[.string p.nm, .int .i64 p.kd, .int .i64 p.al, .slice p.A p.zs.length p.c, .int .i64 p.sz, .slice p.F p.fs.length p.fc])
              replace HB := hide (HB.out.trans (B8.mono HB.out.size))
              replace HO := hide (HO.out.call B8)
              replace HROW := hide (HROW.out.call B8)
              replace HX := hide (HX.out.call B8)
              replace HRR := hide (HRR.out.call B8)
              clear B8
              generalize wr.alloc (.cells #[.string p.nm, .int .i64 p.kd, .int .i64 p.al, .slice p.A p.zs.length p.c, .int .i64 p.sz, .slice p.F p.fs.length p.fc] 77) = w8 at *
              generalize wr.heap.size = SS at *
              clear hc0 hc1 hc2 hc3 hc4 hc5
              go_loopw [61] (fun i wi => ∃ (j : Nat), j ≤ p.fs.length ∧ i = .int .i64 j ∧ OwnO wi w.heap.size ⟨Aq, cq, l1 ++ renJ L p j :: l2, Y, yc, zs⟩ ∧ Row wi w.heap.size 3 1 A o.ys.length c (ints .i64 (toI L)) ∧ Box wi SS 77 #[.string p.nm, .int .i64 p.kd, .int .i64 p.al, .slice p.A p.zs.length p.c, .int .i64 p.sz, .slice p.F p.fs.length p.fc] ∧ Box wi X 31 #[.slice Aq ps.length cq, .slice Y o.ys.length yc] ∧ Box wi R 31 #[.slice none 0 0, .slice none 0 0] ∧ Below w.heap.size w wi) (fun i _ => p.fs.length - (intOf i).toNat)
              case atStart => exact ⟨0, Nat.zero_le _, rfl, by rw [renJ_zero]; exact HO.out, HROW.out, HS.out, HX.out, HRR.out, HB.out⟩
              case round =>
                clear HO HROW HS HX HRR HB
                obtain ⟨j, hj, rfl, ho, hrow, hs, hx, hrr, hb⟩ := hrel
                by_cases hjl : j < p.fs.length
                · have hq : RwS wr w.heap.size (renJ L p j) := ho.1.2.1 _ (by simp)
                  have hjr : j < (renJ L p j).fs.length := by rw [renJ_len]; exact hjl
                  obtain ⟨gf, hF0, hbgf, hgfl, hblk, hown⟩ := own_of hq.2 (by omega)
                  have hF : p.F = some ⟨gf, 0, none⟩ := hF0
                  clear hF0
                  obtain ⟨bf, of, hF1, _, hcf⟩ := Rd.row (xs := (renJ L p j).fs) fixupC_len (by decide) hq.rd.2 hjr
                  have hF1 : p.F = some ⟨bf, of, none⟩ := hF1
                  rw [hF] at hF1
                  simp only [Option.some.injEq, Addr.mk.injEq, and_true] at hF1
                  obtain ⟨rfl, rfl⟩ := hF1
                  have hat := renJ_at L p j hjl
                  rw [List.getElem?_eq_getElem hjr] at hat
                  injection hat with hat
                  rw [hat] at hcf
                  have hc2 := hcf 2 _ rfl
                  rw [Nat.zero_add] at hc2
                  have hfx := HFP.out.2 _ (List.getElem_mem hjl)
                  have HST := hide (OwnO.storeF ho (hF : (renJ L p j).F = _) j p.fs[j] (renJ_at L p j hjl) ((L.idxOf p.fs[j].2.2.1.toNat : Nat)))
                  have HSU := hide (renJ_succ L p j hjl)
                  have HCX := hide (HIDX.out p.fs[j])
                  have hf0 := World.ownsRow.frozenAt hown (j * 4 + 2)
                  have HN := hide (And.intro (hq.2.box hs (by decide) gf hblk) (And.intro (hq.2.box hx (by decide) gf hblk) (hq.2.box hrr (by decide) gf hblk)))
                  have HGR := hide (fun q hq' => apartT hrow hq.2 (by decide) q hq')
                  have HBK := hide (And.intro hblk hbgf)
                  have hsl := hs.lt
                  have s5 := hs.cell 5
                  simp only [List.getElem?_toArray, List.getElem?_cons_zero, List.getElem?_cons_succ] at s5
                  rw [hF] at s5
                  have HRN := hide (show renum L p.fs[j] = (p.fs[j].1, p.fs[j].2.1, ((L.idxOf p.fs[j].2.2.1.toNat : Nat) : Int), p.fs[j].2.2.2) from rfl)
                  have HROW := hide hrow
                  have HS := hide hs
                  have HX := hide hx
                  have HRR := hide hrr
                  have HB := hide hb
                  clear ho hrow hs hx hrr hb hq hcf hat hown hjr hF hF1 hblk
                  generalize p.fs[j] = f at *
                  generalize L.idxOf f.2.2.1.toNat = xi at *
                  have HFX2 := hide hfx
                  clear hfx
                  go_wp2_with fail
                  refine Rv.start (fun W => W.cell? ⟨SS, 5, none⟩ = some (.slice (some ⟨gf, 0, none⟩) p.fs.length p.fc) ∧ W.cell? ⟨gf, j * 4 + 2, none⟩ = some (.int .i64 f.2.2.1)) (fun i => i == 13) (by kernel_rfl) ?_
                  have hHeld : wr.drew.cell? ⟨SS, 5, none⟩ = some (.slice (some ⟨gf, 0, none⟩) p.fs.length p.fc) ∧ wr.drew.cell? ⟨gf, j * 4 + 2, none⟩ = some (.int .i64 f.2.2.1) := ⟨s5, hc2⟩
                  refine Rv.comp (i := 0) (v := ?_) rfl (by kernel_rfl) (by kernel_rfl) (by kernel_rfl) (fun _ _ _ h => h) (Or.inl ⟨by rfl, ?_⟩) ?_
                  rotate_left 1
                  focus (intro w hSw; (try dsimp only at hSw); go_simp; (try with_reducible rfl))
                  try simp only [List.getElem_toArray, List.getElem_cons_succ, List.getElem_cons_zero, Act.put, List.setIfInBounds_toArray, List.set_cons_zero, List.set_cons_succ]
                  refine Rv.take (i := 1) (v := ?_) rfl (by kernel_rfl) (by kernel_rfl) (by kernel_rfl) (by kernel_rfl) (fun _ _ _ h => h) (Or.inl ⟨by rfl, ?_⟩) (by assumption) ?_
                  rotate_left 1
                  focus (intro w hSw; (try dsimp only at hSw); go_simp; (try with_reducible rfl))
                  try simp only [List.getElem_toArray, List.getElem_cons_succ, List.getElem_cons_zero, Act.put, List.setIfInBounds_toArray, List.set_cons_zero, List.set_cons_succ]
                  refine Rv.comp (i := 2) (v := ?_) rfl (by kernel_rfl) (by kernel_rfl) (by kernel_rfl) (fun _ _ _ h => h) (Or.inl ⟨by rfl, ?_⟩) ?_
                  rotate_left 1
                  focus (intro w hSw; (try dsimp only at hSw); go_simp; (try with_reducible rfl))
                  try simp only [List.getElem_toArray, List.getElem_cons_succ, List.getElem_cons_zero, Act.put, List.setIfInBounds_toArray, List.set_cons_zero, List.set_cons_succ]
                  refine Rv.comp (i := 3) (v := ?_) rfl (by kernel_rfl) (by kernel_rfl) (by kernel_rfl) (fun _ _ _ h => h) (Or.inl ⟨by rfl, ?_⟩) ?_
                  rotate_left 1
                  focus (intro w hSw; (try dsimp only at hSw); go_simp; (try with_reducible rfl))
                  try simp only [List.getElem_toArray, List.getElem_cons_succ, List.getElem_cons_zero, Act.put, List.setIfInBounds_toArray, List.set_cons_zero, List.set_cons_succ]
                  refine Rv.comp (i := 4) (v := ?_) rfl (by kernel_rfl) (by kernel_rfl) (by kernel_rfl) (fun _ _ _ h => h) (Or.inl ⟨by rfl, ?_⟩) ?_
                  rotate_left 1
                  focus (intro w hSw; (try dsimp only at hSw); go_simp; (try with_reducible rfl))
                  try simp only [List.getElem_toArray, List.getElem_cons_succ, List.getElem_cons_zero, Act.put, List.setIfInBounds_toArray, List.set_cons_zero, List.set_cons_succ]
                  refine Rv.take (i := 5) (v := ?_) rfl (by kernel_rfl) (by kernel_rfl) (by kernel_rfl) (by kernel_rfl) (fun _ _ _ h => h) (Or.inl ⟨by rfl, ?_⟩) (by assumption) ?_
                  rotate_left 1
                  focus (intro w hSw; (try dsimp only at hSw); go_simp; (try with_reducible rfl))
                  try simp only [List.getElem_toArray, List.getElem_cons_succ, List.getElem_cons_zero, Act.put, List.setIfInBounds_toArray, List.set_cons_zero, List.set_cons_succ]
                  refine Rv.comp (i := 6) (v := ?_) rfl (by kernel_rfl) (by kernel_rfl) (by kernel_rfl) (fun _ _ _ h => h) (Or.inl ⟨by rfl, ?_⟩) ?_
                  rotate_left 1
                  focus (intro w hSw; (try dsimp only at hSw); go_simp; (try with_reducible rfl))
                  try simp only [List.getElem_toArray, List.getElem_cons_succ, List.getElem_cons_zero, Act.put, List.setIfInBounds_toArray, List.set_cons_zero, List.set_cons_succ]
                  refine Rv.comp (i := 7) (v := ?_) rfl (by kernel_rfl) (by kernel_rfl) (by kernel_rfl) (fun _ _ _ h => h) (Or.inl ⟨by rfl, ?_⟩) ?_
                  rotate_left 1
                  focus (intro w hSw; (try dsimp only at hSw); go_simp; (try with_reducible rfl))
                  try simp only [List.getElem_toArray, List.getElem_cons_succ, List.getElem_cons_zero, Act.put, List.setIfInBounds_toArray, List.set_cons_zero, List.set_cons_succ]
                  refine Rv.comp (i := 8) (v := ?_) rfl (by kernel_rfl) (by kernel_rfl) (by kernel_rfl) (fun _ _ _ h => h) (Or.inl ⟨by rfl, ?_⟩) ?_
                  rotate_left 1
                  focus (intro w hSw; (try dsimp only at hSw); go_simp; (try with_reducible rfl))
                  try simp only [List.getElem_toArray, List.getElem_cons_succ, List.getElem_cons_zero, Act.put, List.setIfInBounds_toArray, List.set_cons_zero, List.set_cons_succ]
                  refine Rv.take (i := 9) (v := ?_) rfl (by kernel_rfl) (by kernel_rfl) (by kernel_rfl) (by kernel_rfl) (fun _ _ _ h => h) (Or.inl ⟨by rfl, ?_⟩) (by assumption) ?_
                  rotate_left 1
                  focus (intro w hSw; (try dsimp only at hSw); go_simp; (try with_reducible rfl))
                  try simp only [List.getElem_toArray, List.getElem_cons_succ, List.getElem_cons_zero, Act.put, List.setIfInBounds_toArray, List.set_cons_zero, List.set_cons_succ]
                  refine Rv.one (i := 10) rfl (by kernel_rfl) (fun K hK => ?_)
                  go_simp
                  refine (HCX.out wr.drew HROW.out.drew HFX2.out.1 HFX2.out.2).mono ?_
                  rintro e w9 ⟨rfl, rfl⟩
                  refine hK.out _ _ hHeld ?_
                  clear hK K
                  try simp only [List.getElem_toArray, List.getElem_cons_succ, List.getElem_cons_zero, Act.put, List.setIfInBounds_toArray, List.set_cons_zero, List.set_cons_succ]
                  refine Rv.comp (i := 11) (v := ?_) rfl (by kernel_rfl) (by kernel_rfl) (by kernel_rfl) (fun _ _ _ h => h) (Or.inl ⟨by rfl, ?_⟩) ?_
                  rotate_left 1
                  focus (intro w hSw; (try dsimp only at hSw); go_simp; (try with_reducible rfl))
                  try simp only [List.getElem_toArray, List.getElem_cons_succ, List.getElem_cons_zero, Act.put, List.setIfInBounds_toArray, List.set_cons_zero, List.set_cons_succ]
                  refine Rv.comp (i := 12) (v := ?_) rfl (by kernel_rfl) (by kernel_rfl) (by kernel_rfl) (fun _ _ _ h => h) (Or.inl ⟨by rfl, ?_⟩) ?_
                  rotate_left 1
                  focus (intro w hSw; (try dsimp only at hSw); go_simp; (try with_reducible rfl))
                  try simp only [List.getElem_toArray, List.getElem_cons_succ, List.getElem_cons_zero, Act.put, List.setIfInBounds_toArray, List.set_cons_zero, List.set_cons_succ]
                  refine Rv.last (i := 13) rfl (by kernel_rfl) (by rfl) (fun K hK => ?_)
                  go_simp
                  refine hK.out _ _ ?_
                  clear hK K
                  try simp only [List.getElem_toArray, List.getElem_cons_succ, List.getElem_cons_zero, Act.put, List.setIfInBounds_toArray, List.set_cons_zero, List.set_cons_succ]
                  refine Rv.done (by kernel_rfl) ?_ _
                  go_wp2_with fail
                  refine ⟨⟨j + 1, by omega, by go_num, by rw [HSU.out, HRN.out]; exact HST.out.call (below_dr (Below.refl _ _)), (HROW.out.set (a := ⟨gf, j * 4 + 2, none⟩) (fun q hq e => HGR.out q hq (by rw [e]; exact HBK.out.1)) _).call (below_dr (Below.refl _ _)), (box_setFar HS.out (Ne.symm HN.out.1)).drew, (box_setFar HX.out (Ne.symm HN.out.2.1)).drew, (box_setFar HRR.out (Ne.symm HN.out.2.2)).drew, (HB.out.setCell (p := ⟨gf, j * 4 + 2, none⟩) HBK.out.2 _).drew⟩, by simp [intOf]; omega⟩
                · rw [renJ_all L p (by omega)] at ho
                  have HO := hide ho
                  have HROW := hide hrow
                  have HX := hide hx
                  have HRR := hide hrr
                  have HB := hide hb
                  clear ho hrow hs hx hrr hb
                  go_wp2_with fail
                  refine ⟨⟨k + 1, by omega, by go_num, by first | (rw [HTK.out.1, HL2.out, List.append_assoc]; exact HO.out) | (rw [HTK.out.1, HL2.out, List.append_assoc, ← HAA.out]; exact HO.out), HROW.out, by rw [← HAA.out]; exact HX.out, HRR.out, HB.out⟩, by simp [intOf]; omega⟩
            · have e : (ps.take k).map (renP L) ++ ps.drop k = ps.map (renP L) := by rw [List.take_of_length_le (by omega), List.drop_of_length_le (by omega), List.append_nil]
              rw [e] at ho
              have HFIN := hide (CObject.ret_object ho hb (by
                rintro j ((hj | ⟨x, hx', hj⟩) | hj)
                · exact ho.1.1.box hrr (by decide) j hj
                · exact (ho.1.2.1 x hx').box hrr (by decide) (by decide) j hj
                · exact ho.2.box hrr (by decide) j hj) (Nat.le_of_lt hVR))
              have y0 := hrr.cell 0
              have y1 := hrr.cell 1
              have yf0 := hrr.frozen 0
              have yf1 := hrr.frozen 1
              have hrl := hrr.lt
              have x0 := hx.cell 0
              have x1 := hx.cell 1
              have hxl := hx.lt
              simp only [List.getElem?_toArray, List.getElem?_cons_zero, List.getElem?_cons_succ] at y0 y1 x0 x1
              have kk := (hrr.set 0 (.slice Aq ps.length cq)).set 1 (.slice Y o.ys.length yc)
              have k0 := kk.cell 0
              have k1 := kk.cell 1
              simp only [List.setIfInBounds_toArray, List.set_cons_zero, List.set_cons_succ, List.getElem?_toArray, List.getElem?_cons_zero, List.getElem?_cons_succ] at k0 k1
              clear kk ho hrow hx hrr hb e
              go_wp2_with fail
              refine bodyPost_ret (v := OV.v ⟨Aq, cq, ps.map (renP L), Y, yc, zs⟩) (by simp [results, Tryz.results12, go_sem, OV.v, k0, k1, HYN.out]) rfl ?_
              rw [HDD.out]
              have h := HFIN.out
              simp only [List.length_map, HYN.out] at h
              exact h
end Go.Proofs.YtmglgjchemecjaaGreat.CSort
/- The reference's ClearFixups. -/
namespace Go.Proofs.YtmglgjchemecjaaGreat.CClearS
set_option maxRecDepth 200000
open Go.ChangeShapes Go.WideShapes Go.ChangeAt Go.RowKit Kit CCode CFixups CSymbols PObj BObj CMarkRows PValid CSecValid CUses CCovers CObjValid CObjValidS PWarn CCopyS CCopyI BStore PClear
theorem row_own {w : World} {base c : Nat} {A : Option Addr} {l1 l2 : List SV} {q : SV} (h : OwnSs w base A c (l1 ++ q :: l2)) :
    ∃ b, A = some ⟨b, 0, none⟩ ∧ blk A c = some b ∧ b < w.heap.size ∧ ∀ j u, (secC q)[j]? = some u → w.cell? ⟨b, l1.length * 6 + j, none⟩ = some u := by
  obtain ⟨b, hA, _, hb, hk, _⟩ := own_of h.1 (by rw [List.length_append, List.length_cons]; omega)
  obtain ⟨b', off, hA', _, hc⟩ := row_at h.rd
  have e := hA.symm.trans hA'
  simp only [Option.some.injEq, Addr.mk.injEq, and_true] at e
  obtain ⟨rfl, rfl⟩ := e
  exact ⟨b, hA, hk, hb, fun j u hu => by have := hc j u hu; rwa [Nat.zero_add] at this⟩
end Go.Proofs.YtmglgjchemecjaaGreat.CClearS
