/- Whether a fixup uses a symbol: the program's uses. -/
import Derived.Test.YtmglgjchemecjaaCObjValid
namespace Go.Proofs.Ytmglgjchemecjaa.CUses
set_option maxRecDepth 200000
open Go.ChangeShapes Go.WideShapes Go.ChangeAt Go.RowKit Kit CFixups CSymbols PObj BObj
def useF (j : Int) (f : FD) : Bool := f.2.2.1 == j
def useS (j : Int) (fs : List FD) : Bool := fs.any (useF j)
def used (ss : List SD) (j : Int) : Bool := ss.any fun d => useS j d.fs
theorem predF_any (j : Int) (N : Nat) (z : FD) (w : World) (hN : N < w.heap.size) (hc : w.cell? ⟨N, 0, none⟩ = some (.int .i64 j)) :
    Calls Try.prog 109 #[.agg #[.int .i64 z.1, .int .i64 z.2.1, .int .i64 z.2.2.1, .int .i64 z.2.2.2], .pointer (some ⟨N, 0, none⟩)] w (Ret (.bool (useF j z)) w) := by
  have B0 : Below w.heap.size w (w.alloc (.cells #[.int .i64 z.1, .int .i64 z.2.1, .int .i64 z.2.2.1, .int .i64 z.2.2.2] 77)) := (by repeat (first | exact Below.refl _ _ | with_reducible assumption | (refine Below.drew ?_) | (refine Below.drewN ?_ _) | (refine Below.alloc ?_ (by simp; try omega) _) | (refine Below.setCell ?_ (by simp; try omega) _)))
  have hc1 := (B0.cell (p := ⟨N, 0, none⟩) hN).trans hc
  have HB := hide B0
  clear B0
  unfold useF
  go_enter Try.func109, Try.ntmps109
  go_wp2_with fail
  go_ret
  exact ⟨rfl, HB.out⟩
theorem indexF_any (j : Int) (N : Nat) (A : Option Addr) (ys : List FD) (c : Nat) (w : World) (hr : Rd w w.heap.size A (cellsOf fixupC ys)) (hm : ys.length ≤ maxLen) (hN : N < w.heap.size) (hc : w.cell? ⟨N, 0, none⟩ = some (.int .i64 j)) :
    Calls Try.prog 165 #[.slice A ys.length c, .func (.func 109) #[] #[.pointer (some ⟨N, 0, none⟩)]] w fun e w' => ∃ r : Int, e = .returned (.int .i64 r) ∧ decide (0 ≤ r) = useS j ys ∧ Below w.heap.size w w' := by
  unfold maxLen at hm
  unfold useS
  go_enter Try.func165, Try.ntmps165
  go_wp2
  go_loopw [8] (fun i wr => ∃ k : Nat, k ≤ ys.length ∧ i = .int .i64 k ∧ (ys.take k).any (useF j) = false ∧ Below w.heap.size w wr) (fun i _ => ys.length - (intOf i).toNat)
  case atStart => exact ⟨0, Nat.zero_le _, rfl, rfl, Below.refl _ _⟩
  case round =>
    obtain ⟨k, hk, rfl, hn, hb⟩ := hrel
    have HB := hide hb
    by_cases hlt : k < ys.length
    · obtain ⟨b, off, rfl, hbb, hcc⟩ := (hr.below hb).row fixupC_len (by decide) hlt
      have hc0 := hcc 0 _ rfl
      have hc1 := hcc 1 _ rfl
      have hc2 := hcc 2 _ rfl
      have hc3 := hcc 3 _ rfl
      simp only [Nat.add_zero] at hc0
      have HS := hide (show (ys.take (k + 1)).any (useF j) = useF j ys[k] by rw [take_succ hlt, List.any_append, hn]; simp)
      have HT := hide (show useF j ys[k] = true → ys.any (useF j) = true from fun h => List.any_eq_true.2 ⟨_, List.getElem_mem hlt, h⟩)
      have HP := hide (fun z => predF_any j N z wr (Nat.lt_of_lt_of_le hN hb.size) ((hb.cell (p := ⟨N, 0, none⟩) hN).trans hc))
      clear hr hb hcc hn hc
      generalize ys[k] = z at *
      have hpred := HP.out z
      cases h : useF j z
      · have HS' := hide (HS.out.trans h)
        rw [h] at hpred
        clear HT HS h HP
        go_wp2_with fail
        refine hpred.mono ?_
        rintro e w2 ⟨rfl, b2⟩
        have HB' := hide (HB.out.trans (b2.mono HB.out.size))
        clear b2 hc0 hc1 hc2 hc3
        go_wp2_with fail
        refine ⟨⟨k + 1, by omega, by go_num, HS'.out, HB'.out⟩, by simp [intOf]; omega⟩
      · have HT' := hide (HT.out h)
        rw [h] at hpred
        clear HT HS h HP
        go_wp2_with fail
        refine hpred.mono ?_
        rintro e w2 ⟨rfl, b2⟩
        have HB' := hide (HB.out.trans (b2.mono HB.out.size))
        clear b2 hc0 hc1 hc2 hc3
        go_wp2_with fail
        go_ret
        exact ⟨k, rfl, by rw [HT'.out]; simp, HB'.out⟩
    · have HN := hide (show ys.any (useF j) = false by rw [← hn, List.take_of_length_le (by omega)])
      clear hr hb hn hc
      go_wp2_with fail
      go_ret
      exact ⟨-1, rfl, by rw [HN.out]; rfl, HB.out⟩
theorem containsF_any (j : Int) (N : Nat) (A : Option Addr) (ys : List FD) (c : Nat) (w : World) (hr : Rd w w.heap.size A (cellsOf fixupC ys)) (hm : ys.length ≤ maxLen) (hN : N < w.heap.size) (hc : w.cell? ⟨N, 0, none⟩ = some (.int .i64 j)) :
    Calls Try.prog 108 #[.slice A ys.length c, .func (.func 109) #[] #[.pointer (some ⟨N, 0, none⟩)]] w (Ret (.bool (useS j ys)) w) := by
  have HQ := hide (indexF_any j N A ys c w hr hm hN hc)
  clear hr hm hc
  go_enter Try.func108, Try.ntmps108
  go_wp2_with fail
  refine HQ.out.mono ?_
  rintro e w2 ⟨r, rfl, hr2, b2⟩
  have HR := hide hr2
  have HB := hide b2
  clear hr2 b2
  go_wp2_with fail
  go_ret
  exact ⟨by rw [← HR.out]; rfl, HB.out⟩
theorem predS_any (j : Int) (N : Nat) (p : SV) (w : World) (hr : RdS w w.heap.size p) (hm : p.fs.length ≤ maxLen) (hN : N < w.heap.size) (hc : w.cell? ⟨N, 0, none⟩ = some (.int .i64 j)) :
    Calls Try.prog 107 #[.agg #[.string p.nm, .int .i64 p.kd, .int .i64 p.al, .slice p.A p.zs.length p.c, .int .i64 p.sz, .slice p.F p.fs.length p.fc], .pointer (some ⟨N, 0, none⟩)] w (Ret (.bool (useS j p.fs)) w) := by
  have B0 : Below w.heap.size w (w.alloc (.cells #[.string p.nm, .int .i64 p.kd, .int .i64 p.al, .slice p.A p.zs.length p.c, .int .i64 p.sz, .slice p.F p.fs.length p.fc] 73)) := (by repeat (first | exact Below.refl _ _ | with_reducible assumption | (refine Below.drew ?_) | (refine Below.drewN ?_ _) | (refine Below.alloc ?_ (by simp; try omega) _) | (refine Below.setCell ?_ (by simp; try omega) _)))
  have hc1 := (B0.cell (p := ⟨N, 0, none⟩) hN).trans hc
  have HQ := hide (containsF_any j N p.F p.fs p.fc _ ((hr.2.below B0).more B0.size) hm (Nat.lt_of_lt_of_le hN B0.size) hc1)
  have HB := hide B0
  clear B0 hr hm hc hc1
  go_enter Try.func107, Try.ntmps107
  go_wp2_with fail
  refine HQ.out.mono ?_
  rintro e w2 ⟨rfl, b2⟩
  have HB2 := hide (HB.out.trans (b2.mono HB.out.size))
  clear b2
  go_wp2_with fail
  go_ret
  exact ⟨rfl, HB2.out⟩
theorem indexS_any (j : Int) (N : Nat) (A : Option Addr) (ps : List SV) (c : Nat) (w : World) (hr : RdSs w w.heap.size A ps) (hm : ps.length ≤ maxLen) (hf : ∀ p ∈ ps, p.fs.length ≤ maxLen) (hN : N < w.heap.size) (hc : w.cell? ⟨N, 0, none⟩ = some (.int .i64 j)) :
    Calls Try.prog 164 #[.slice A ps.length c, .func (.func 107) #[] #[.pointer (some ⟨N, 0, none⟩)]] w fun e w' => ∃ r : Int, e = .returned (.int .i64 r) ∧ decide (0 ≤ r) = used (ps.map SV.d) j ∧ Below w.heap.size w w' := by
  unfold maxLen at hm
  have hu : used (ps.map SV.d) j = ps.any (fun p => useS j p.fs) := by
    unfold used
    rw [List.any_map]
    rfl
  rw [hu]
  clear hu
  go_enter Try.func164, Try.ntmps164
  go_wp2
  go_loopw [8] (fun i wr => ∃ k : Nat, k ≤ ps.length ∧ i = .int .i64 k ∧ (ps.take k).any (fun p => useS j p.fs) = false ∧ Below w.heap.size w wr) (fun i _ => ps.length - (intOf i).toNat)
  case atStart => exact ⟨0, Nat.zero_le _, rfl, rfl, Below.refl _ _⟩
  case round =>
    obtain ⟨k, hk, rfl, hn, hb⟩ := hrel
    have HB := hide hb
    by_cases hlt : k < ps.length
    · obtain ⟨b, off, rfl, hbb, hcc⟩ := (hr.1.below hb).row secC_len (by decide) hlt
      have hc0 := hcc 0 _ rfl
      have hc1 := hcc 1 _ rfl
      have hc2 := hcc 2 _ rfl
      have hc3 := hcc 3 _ rfl
      have hc4 := hcc 4 _ rfl
      have hc5 := hcc 5 _ rfl
      simp only [Nat.add_zero] at hc0
      have HS := hide (show (ps.take (k + 1)).any (fun p => useS j p.fs) = useS j ps[k].fs by rw [take_succ hlt, List.any_append, hn]; simp)
      have HT := hide (show useS j ps[k].fs = true → ps.any (fun p => useS j p.fs) = true from fun h => List.any_eq_true.2 ⟨_, List.getElem_mem hlt, h⟩)
      have HP := hide (predS_any j N ps[k] wr (((hr.2 _ (List.getElem_mem hlt)).below hb).more hb.size) (hf _ (List.getElem_mem hlt)) (Nat.lt_of_lt_of_le hN hb.size) ((hb.cell (p := ⟨N, 0, none⟩) hN).trans hc))
      clear hr hb hcc hn hc hf
      generalize ps[k] = z at *
      have hpred := HP.out
      cases h : useS j z.fs
      · have HS' := hide (HS.out.trans h)
        rw [h] at hpred
        clear HT HS h HP
        go_wp2_with fail
        refine hpred.mono ?_
        rintro e w2 ⟨rfl, b2⟩
        have HB' := hide (HB.out.trans (b2.mono HB.out.size))
        clear b2 hc0 hc1 hc2 hc3 hc4 hc5
        go_wp2_with fail
        refine ⟨⟨k + 1, by omega, by go_num, HS'.out, HB'.out⟩, by simp [intOf]; omega⟩
      · have HT' := hide (HT.out h)
        rw [h] at hpred
        clear HT HS h HP
        go_wp2_with fail
        refine hpred.mono ?_
        rintro e w2 ⟨rfl, b2⟩
        have HB' := hide (HB.out.trans (b2.mono HB.out.size))
        clear b2 hc0 hc1 hc2 hc3 hc4 hc5
        go_wp2_with fail
        go_ret
        exact ⟨k, rfl, by rw [HT'.out]; simp, HB'.out⟩
    · have HN := hide (show ps.any (fun p => useS j p.fs) = false by rw [← hn, List.take_of_length_le (by omega)])
      clear hr hb hn hc hf
      go_wp2_with fail
      go_ret
      exact ⟨-1, rfl, by rw [HN.out]; rfl, HB.out⟩
theorem containsS_any (j : Int) (N : Nat) (A : Option Addr) (ps : List SV) (c : Nat) (w : World) (hr : RdSs w w.heap.size A ps) (hm : ps.length ≤ maxLen) (hf : ∀ p ∈ ps, p.fs.length ≤ maxLen) (hN : N < w.heap.size) (hc : w.cell? ⟨N, 0, none⟩ = some (.int .i64 j)) :
    Calls Try.prog 106 #[.slice A ps.length c, .func (.func 107) #[] #[.pointer (some ⟨N, 0, none⟩)]] w (Ret (.bool (used (ps.map SV.d) j)) w) := by
  have HQ := hide (indexS_any j N A ps c w hr hm hf hN hc)
  clear hr hm hc hf
  go_enter Try.func106, Try.ntmps106
  go_wp2_with fail
  refine HQ.out.mono ?_
  rintro e w2 ⟨r, rfl, hr2, b2⟩
  have HR := hide hr2
  have HB := hide b2
  clear hr2 b2
  go_wp2_with fail
  go_ret
  exact ⟨by rw [← HR.out]; rfl, HB.out⟩
theorem uses_any (o : OV) (j : Int) (w : World) (hr : RdO w w.heap.size o) (hm : o.ps.length ≤ maxLen) (hf : ∀ p ∈ o.ps, p.fs.length ≤ maxLen) :
    Calls Try.prog 42 #[.agg #[.slice o.A o.ps.length o.c, .slice o.Y o.ys.length o.yc], .int .i64 j] w (Ret (.bool (used o.d.ss j)) w) := by
  obtain ⟨A, c, ps, Y, yc, ys⟩ := o
  simp only [OV.d] at hm hf ⊢
  have B0 : Below w.heap.size w ((w.alloc (.cells #[.slice A ps.length c, .slice Y ys.length yc] 26)).alloc (.cells #[.int .i64 j] 3)) := (by repeat (first | exact Below.refl _ _ | with_reducible assumption | (refine Below.drew ?_) | (refine Below.drewN ?_ _) | (refine Below.alloc ?_ (by simp; try omega) _) | (refine Below.setCell ?_ (by simp; try omega) _)))
  have N0 := Box.new (w.alloc (.cells #[.slice A ps.length c, .slice Y ys.length yc] 26)) 3 #[.int .i64 j]
  simp only [World.size_alloc] at N0
  have hn0 := N0.cell 0
  simp only [List.getElem?_toArray, List.getElem?_cons_zero] at hn0
  have HQ := hide (containsS_any j (w.heap.size + 1) A ps c _ ((hr.1.below B0).more B0.size) hm hf N0.lt hn0)
  have HB := hide B0
  clear B0 hr hm hf hn0 N0
  go_enter Try.func42, Try.ntmps42
  go_wp2_with fail
  refine HQ.out.mono ?_
  rintro e w2 ⟨rfl, b2⟩
  have HB2 := hide (HB.out.trans (b2.mono HB.out.size))
  clear b2
  go_wp2_with fail
  go_ret
  exact ⟨rfl, HB2.out⟩
end Go.Proofs.Ytmglgjchemecjaa.CUses
