/- Contracts of the laws' helpers on []Section: the copy, the comparison of equal data, the size. -/
import Derived.Test.YtmglgjchemecjaaCSection
import Derived.StillTailTactics
namespace Go.Proofs.Ytmglgjchemecjaa.CSections
set_option maxRecDepth 200000
open Go.ChangeShapes Go.WideShapes Go.ChangeAt Go.RowKit Kit CFixups CSymbols PObj BObj CSection
/-- The sizes that the laws' count allows. -/
def Lim (p : SV) : Prop := p.zs.length ≤ 1048576 ∧ p.fs.length ≤ 1048576
theorem toSectionS_any (A : Option Addr) (ps : List SV) (c : Nat) (w : World) (hr : RdSs w w.heap.size A ps) (hm : ps.length ≤ 1048576) (hl : ∀ p ∈ ps, Lim p) :
    Calls Try.prog 55 #[.slice A ps.length c] w (RetSs (ps.map SV.d) w) := by
  obtain ⟨i0, hi, hz0, hz1, hz2⟩ := info_parts BObj.info
  go_enter Try.func55, Try.ntmps55
  go_wp2_with (at_make; refine wpList_make_full _ rfl _ _ _ rfl w.heap.size 73 i0 (.agg #[.string ByteArray.empty, .int .i64 0, .int .i64 0, .slice none 0 0, .int .i64 0, .slice none 0 0]) 6 Try.underlying23 hi hz0 hz1 .i64 .i64 _ _ ps.length rfl rfl rfl rfl ?c1 ?c2 ?c3 ?_)
  case c1 => rw [hz2]; omega
  case c2 => unfold maxLen; omega
  case c3 => exact Nat.le_refl _
  intro w1 hown hg
  have hb1 : Below w.heap.size w w1 := (Below.refl _ _).grown hg (Nat.le_refl _) (by intro k h; cases h)
  clear hg
  have hown1 : ∃ xs, w1.ownsRow w.heap.size 73 6 (.slice (some ⟨w.heap.size, 0, none⟩) ps.length ps.length) ps.length xs := ⟨_, hown⟩
  clear hown
  go_wp2
  go_loopw [4] (fun i wr => ∃ (k : Nat) (qs : List SV), qs.length = k ∧ k ≤ ps.length ∧ i = .int .i64 k ∧ qs.map SV.d = (ps.take k).map SV.d ∧ (∃ xs, wr.ownsRow w.heap.size 73 6 (.slice (some ⟨w.heap.size, 0, none⟩) ps.length ps.length) ps.length (cellsOf secC qs ++ xs)) ∧ RwSs wr w.heap.size qs ∧ PwSs qs ∧ Below w.heap.size w wr) (fun i _ => ps.length - (intOf i).toNat)
  case atStart => exact ⟨0, [], rfl, Nat.zero_le _, rfl, rfl, by simpa [cellsOf] using hown1, (fun p hp => by cases hp), List.Pairwise.nil, hb1⟩
  case round =>
    obtain ⟨k, qs, hql, hk, rfl, hd, ⟨xs, ho⟩, hrw, hpw, hb⟩ := hrel
    clear hown1 hb1
    by_cases hlt : k < ps.length
    · obtain ⟨b, off, rfl, hbg, hc⟩ := (hr.1.below hb).row secC_len (by decide) hlt
      have hc0 := hc 0 _ rfl
      have hc1 := hc 1 _ rfl
      have hc2 := hc 2 _ rfl
      have hc3 := hc 3 _ rfl
      have hc4 := hc 4 _ rfl
      have hc5 := hc 5 _ rfl
      simp only [Nat.add_zero] at hc0
      have hll := ho.1
      have HO := hide ho
      have HB := hide hb
      have HR := hide (((hr.2 _ (List.getElem_mem hlt)).below hb).more hb.size)
      have HM := hide (hl _ (List.getElem_mem hlt))
      have HW := hide (And.intro hrw hpw)
      have HD := hide (show (qs ++ [ps[k]]).map SV.d = (ps.take (k + 1)).map SV.d by rw [take_succ hlt, List.map_append, List.map_append, hd])
      clear hr ho hb hc hrw hpw hd
      generalize ps[k] = p at *
      go_wp2_with fail
      refine (toSection_any p _ HR.out HM.out.1 HM.out.2).mono ?_
      rintro e w2 ⟨q, rfl, hqd, r1, hb2⟩
      have HF : Hid (∀ p ∈ qs, ∀ k, sblk p k → k ≠ w.heap.size) := hide (by
        obtain ⟨cs, hbx⟩ := box_of_own HO.out
        exact fun p hp => (HW.out.1 p hp).box hbx (by decide) (by decide))
      have ho := own_call hb2 HO.out
      have hb' := HB.out.trans (hb2.mono HB.out.size)
      obtain ⟨⟨old0, hk0⟩, hfz0⟩ := own_old ho (j := k * 6) (by omega)
      obtain ⟨⟨old1, hk1⟩, hfz1⟩ := own_old ho (j := k * 6 + 1) (by omega)
      obtain ⟨⟨old2, hk2⟩, hfz2⟩ := own_old ho (j := k * 6 + 2) (by omega)
      obtain ⟨⟨old3, hk3⟩, hfz3⟩ := own_old ho (j := k * 6 + 3) (by omega)
      obtain ⟨⟨old4, hk4⟩, hfz4⟩ := own_old ho (j := k * 6 + 4) (by omega)
      obtain ⟨⟨old5, hk5⟩, hfz5⟩ := own_old ho (j := k * 6 + 5) (by omega)
      have hpl : (cellsOf secC qs).length = k * 6 := by rw [cellsOf_len secC_len, hql]
      have ho1 := own_put ho hpl (by omega) (.string q.nm)
      have ho2 := own_put ho1 (j := k * 6 + 1) (by simp only [List.length_append, hpl]; rfl) (by omega) (.int .i64 q.kd)
      have ho3 := own_put ho2 (j := k * 6 + 2) (by simp only [List.length_append, hpl]; rfl) (by omega) (.int .i64 q.al)
      have ho4 := own_put ho3 (j := k * 6 + 3) (by simp only [List.length_append, hpl]; rfl) (by omega) (.slice q.A q.zs.length q.c)
      have ho5 := own_put ho4 (j := k * 6 + 4) (by simp only [List.length_append, hpl]; rfl) (by omega) (.int .i64 q.sz)
      have ho6 := own_put ho5 (j := k * 6 + 5) (by simp only [List.length_append, hpl]; rfl) (by omega) (.slice q.F q.fs.length q.fc)
      have HF1 : ∀ k, sblk q k → k ≠ w.heap.size := by
        obtain ⟨cs, hbx⟩ := box_of_own ho
        exact r1.box hbx (by decide) (by decide)
      have HO' := hide ho6
      have HB' := hide hb'
      have HW' := hide (show RwSs (put6 w2 w.heap.size (k * 6) (.string q.nm) (.int .i64 q.kd) (.int .i64 q.al) (.slice q.A q.zs.length q.c) (.int .i64 q.sz) (.slice q.F q.fs.length q.fc)) w.heap.size qs from fun x hx => put6_rwS ((HW.out.1.call hb2) x hx) (HF.out x hx))
      have HQ' := hide (put6_rwS (i := k * 6) (v0 := .string q.nm) (v1 := .int .i64 q.kd) (v2 := .int .i64 q.al) (v3 := .slice q.A q.zs.length q.c) (v4 := .int .i64 q.sz) (v5 := .slice q.F q.fs.length q.fc) (r1.down HB.out.size) HF1)
      have HP' := hide (HW.out.2.snoc (q := q) (fun x hx j hj => ((HW.out.1 x hx).lt j hj).2) (fun j hj => (r1.lt j hj).1))
      have HQD := hide hqd
      clear ho ho1 ho2 ho3 ho4 ho5 ho6 hpl hb' HO HB hb2 HW HF HF1 r1 HR hqd
      simp only [secC]
      go_wp2_with fail
      refine ⟨⟨k + 1, qs ++ [q], by simp [hql], by omega, by go_num, ?_, ⟨xs.tail.tail.tail.tail.tail.tail, ?_⟩, ?_, HP'.out, ?_⟩, by simp [intOf]; omega⟩
      · rw [← HD.out, List.map_append, List.map_append, List.map_singleton, List.map_singleton, HQD.out]
      · rw [cells_snoc]
        simpa [secC] using HO'.out
      · exact HW'.out.snoc HQ'.out
      · exact put6_below (i := k * 6) HB'.out (Nat.le_refl _)
    · have e : k = ps.length := by omega
      subst e
      have hxs : xs = [] := by
        have := ho.1
        rw [List.length_append, cellsOf_len secC_len] at this
        exact List.eq_nil_of_length_eq_zero (by omega)
      subst hxs
      rw [List.take_length] at hd
      rw [List.append_nil] at ho
      have HH := hide (show RetSs (ps.map SV.d) w (.returned (.slice (some ⟨w.heap.size, 0, none⟩) ps.length ps.length)) _ from ⟨_, ps.length, qs, by rw [hql], hd, ⟨.inr (by rw [hql]; exact ho), hrw, hpw⟩, hb⟩)
      clear hr ho hd hrw hpw hb
      go_wp2
      go_ret
      exact HH.out
set_option maxRecDepth 20000 in
theorem eqSectionS_same (A A' : Option Addr) (ps qs : List SV) (c c' : Nat) (w : World) (hr : RdSs w w.heap.size A ps) (hr' : RdSs w w.heap.size A' qs) (hd : ps.map SV.d = qs.map SV.d) (hm : ps.length ≤ maxLen) (hl : ∀ p ∈ ps, p.zs.length ≤ maxLen ∧ p.fs.length ≤ maxLen) :
    Calls Try.prog 58 #[.slice A ps.length c, .slice A' qs.length c'] w (Ret (.bool true) w) := by
  unfold maxLen at hm
  have hlen : ps.length = qs.length := by simpa using congrArg List.length hd
  rw [← hlen]
  have HL := hide hlen
  clear hlen
  have h0 : (((ps.length : Nat) : Int) != (ps.length : Nat)) = false := by simp
  go_enter Try.func58, Try.ntmps58
  go_wp2
  clear h0
  go_loopw [5] (fun i wr => ∃ k : Nat, k ≤ ps.length ∧ i = .int .i64 k ∧ Below w.heap.size w wr) (fun i _ => ps.length - (intOf i).toNat)
  case atStart => exact ⟨0, Nat.zero_le _, rfl, Below.refl _ _⟩
  case round =>
    obtain ⟨k, hk, rfl, hb⟩ := hrel
    have HB := hide hb
    by_cases hlt : k < ps.length
    · obtain ⟨b, off, rfl, _, hc⟩ := (hr.1.below hb).row secC_len (by decide) hlt
      obtain ⟨b', off', rfl, _, hd'⟩ := (hr'.1.below hb).row secC_len (by decide) (show k < qs.length by rw [← HL.out]; exact hlt)
      have hc0 := hc 0 _ rfl
      have hd0 := hd' 0 _ rfl
      have hc1 := hc 1 _ rfl
      have hd1 := hd' 1 _ rfl
      have hc2 := hc 2 _ rfl
      have hd2 := hd' 2 _ rfl
      have hc3 := hc 3 _ rfl
      have hd3 := hd' 3 _ rfl
      have hc4 := hc 4 _ rfl
      have hd4 := hd' 4 _ rfl
      have hc5 := hc 5 _ rfl
      have hd5 := hd' 5 _ rfl
      simp only [Nat.add_zero] at hc0 hd0
      have hkq : k < qs.length := by rw [← HL.out]; exact hlt
      have hkd : (ps[k]).d = (qs[k]).d := by
        have := congrArg (fun l => l[k]?) hd
        simpa [List.getElem?_map, List.getElem?_eq_getElem hlt, List.getElem?_eq_getElem hkq] using this
      have HM := hide (hl _ (List.getElem_mem hlt))
      have HR1 := hide (((hr.2 _ (List.getElem_mem hlt)).below hb).more hb.size)
      have HR2 := hide (((hr'.2 _ (List.getElem_mem hkq)).below hb).more hb.size)
      have HD := hide hkd
      clear hr hr' hc hd' hb hd hkd
      generalize ps[k] = p at *
      generalize qs[k] = q at *
      go_wp2_with fail
      go_still_tail 8, (by kernel_rfl)
      change wpList _ _ _ _ _ wr.drew
      clear hc0 hd0 hc1 hd1 hc2 hd2 hc3 hd3 hc4 hd4 hc5 hd5
      go_wp2_with fail
      refine (eqSection_same p q _ (by exact HR1.out) (by exact HR2.out) HD.out HM.out.1 HM.out.2).mono ?_
      rintro e w2 ⟨rfl, hb2⟩
      have HB' := hide (HB.out.trans ((of_drew hb2).mono HB.out.size))
      clear hb2
      go_wp2_with fail
      go_roundw
      case rel =>
        exact ⟨k + 1, by omega, by go_num, HB'.out⟩
      case measure => simp [intOf]; omega
    · clear hr hr'
      go_wp2_with fail
      go_ret
      exact ⟨rfl, HB.out⟩
def dat (ps : List SV) : List SD := ps.map SV.d
theorem szSectionS_any (A : Option Addr) (ps : List SV) (c : Nat) (left : Int) (w : World) (h0 : 0 ≤ left) (h1 : left ≤ 1048576) (hr : Rd w w.heap.size A (cellsOf secC ps)) (hn : ps.length ≤ maxLen) (hl : ∀ p ∈ ps, p.nm.size ≤ maxLen ∧ p.zs.length ≤ maxLen ∧ p.fs.length ≤ maxLen) :
    Calls Try.prog 53 #[.slice A ps.length c, .int .i64 left] w fun e w' => (∃ r, e = .returned (.int .i64 r) ∧ (r = -1 ∨ 0 ≤ r ∧ r ≤ left ∧ r + ps.length + tot (ps.map SV.d) = left)) ∧ Below w.heap.size w w' := by
  have hn' := hn
  unfold maxLen at hn'
  by_cases hf : left - ps.length < 0
  · go_enter Try.func53, Try.ntmps53
    clear hr
    go_wp2
    go_ret
    exact ⟨⟨_, rfl, .inl rfl⟩, Below.refl _ _⟩
  · go_enter Try.func53, Try.ntmps53
    have HR := hide hr
    clear hr
    have hDl : (ps.map SV.d).length = ps.length := List.length_map _
    generalize hD : ps.map SV.d = ds at *
    have HDD := hide hD
    clear hD
    go_wp2
    go_loopw [1, 5] (fun l i wr => ∃ (k : Nat) (x : Int), k ≤ ps.length ∧ i = .int .i64 k ∧ l = .int .i64 x ∧ 0 ≤ x ∧ x + (ps.length + (tot ds - tot (ds.drop k))) = left ∧ Below w.heap.size w wr) (fun _ i _ => ps.length - (intOf i).toNat)
    case atStart => exact ⟨0, left - ps.length, Nat.zero_le _, rfl, by go_num, by omega, by rw [List.drop_zero]; omega, Below.refl _ _⟩
    case round =>
      obtain ⟨k, x, hk, rfl, rfl, hx0, hx1, hb⟩ := hrel
      have HB := hide hb
      have hx2 : x ≤ left := by
        have := tot_drop_le ds k
        omega
      by_cases hlt : k < ps.length
      · obtain ⟨b, off, rfl, _, hc⟩ := (HR.out.below hb).row secC_len (by decide) hlt
        have hc0 := hc 0 _ rfl
        have hc1 := hc 1 _ rfl
        have hc2 := hc 2 _ rfl
        have hc3 := hc 3 _ rfl
        have hc4 := hc 4 _ rfl
        have hc5 := hc 5 _ rfl
        simp only [Nat.add_zero] at hc0
        have hkd : k < ds.length := by omega
        have hpd : ds[k] = ps[k].d := by
          have h := HDD.out
          subst h
          simp
        have HT := hide (show tot (ds.drop k) = wt ps[k].d + tot (ds.drop (k + 1)) by rw [tot_drop hkd, hpd])
        have HX := hide hx1
        have HM := hide (hl _ (List.getElem_mem hlt))
        clear hc hb hx1 hpd hkd
        generalize ps[k] = p at *
        by_cases hs : x - wt p.d < 0
        · have HZ := hide (szJ_neg hs)
          go_wp2_with fail
          refine (szSection_any p x _ hx0 (by omega) HM.out.1 HM.out.2.1 HM.out.2.2).mono ?_
          rintro e w2 ⟨rfl, hb2⟩
          rw [HZ.out]
          have HB' := hide (HB.out.trans (hb2.mono HB.out.size))
          clear hb2
          go_wp2_with fail
          go_ret
          exact ⟨⟨_, rfl, .inl rfl⟩, HB'.out⟩
        · have HZ := hide (szJ_pos hs)
          go_wp2_with fail
          refine (szSection_any p x _ hx0 (by omega) HM.out.1 HM.out.2.1 HM.out.2.2).mono ?_
          rintro e w2 ⟨rfl, hb2⟩
          rw [HZ.out]
          have HB' := hide (HB.out.trans (hb2.mono HB.out.size))
          clear hb2
          go_wp2_with fail
          go_roundw
          case rel => exact ⟨k + 1, x - wt p.d, by omega, by go_num, rfl, by omega, (by have h1 := HT.out; have h2 := HX.out; omega), HB'.out⟩
          case measure => simp [intOf]; omega
      · have hE : 0 ≤ x ∧ x ≤ left ∧ x + ps.length + tot ds = left := by
          have e : k = ds.length := by omega
          subst e
          rw [List.drop_length] at hx1
          simp only [tot] at hx1
          omega
        have HE := hide hE
        clear hE hx1 hb
        go_wp2_with fail
        go_ret
        exact ⟨⟨_, rfl, .inr HE.out⟩, HB.out⟩
end Go.Proofs.Ytmglgjchemecjaa.CSections
