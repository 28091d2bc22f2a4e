/- Contracts of the laws' helpers on []Patch: the copy, the comparison of equal data, the size, the marks; of l1OwnPatchList. -/
import Derived.Test.YtjnnjgogpapbhaaBPatch
import Derived.Test.YtjnnjgogpapbhaaRows
import Derived.StillTailTactics
namespace Go.Proofs.Ytjnnjgogpapbhaa.CPatches
set_option maxRecDepth 200000
open Go.ChangeShapes Go.WideShapes Go.ChangeAt Go.RowKit Kit CImage CPatch PPatch BPatch
/-- A call that hands back patches of its own. -/
def RetPs (ds : List PD) (w : World) (e : Ending) (w' : World) : Prop := ∃ A c qs, e = .returned (.slice A qs.length c) ∧ qs.map PV.d = ds ∧ OwnPs w' w.heap.size A c qs ∧ Below w.heap.size w w'
theorem toPatchS_any (A : Option Addr) (ps : List PV) (c : Nat) (w : World) (hr : RdPs w w.heap.size A ps) (hm : ps.length ≤ 1048576) (hl : ∀ p ∈ ps, p.zs.length ≤ 1048576) :
    Calls Try.prog 15 #[.slice A ps.length c] w (RetPs (ps.map PV.d) w) := by
  obtain ⟨i0, hi, hz0, hz1, hz2⟩ := info_parts info
  go_enter Try.func15, Try.ntmps15
  go_wp2_with (at_make; refine wpList_make_full _ rfl _ _ _ rfl w.heap.size 72 i0 (.agg #[.int .i64 0, .slice none 0 0]) 2 Try.underlying39 hi hz0 hz1 .i64 .i64 _ _ ps.length rfl rfl rfl rfl ?c1 ?c2 ?c3 ?_)
  case c1 => rw [hz2]; omega
  case c2 => unfold maxLen; omega
  case c3 => exact Nat.le_refl _
  intro w1 hown hg
  have hb1 : Below w.heap.size w w1 := (Below.refl _ _).grown hg (Nat.le_refl _) (by intro k h; cases h)
  clear hg
  have hown1 : ∃ xs, w1.ownsRow w.heap.size 72 2 (.slice (some ⟨w.heap.size, 0, none⟩) ps.length ps.length) ps.length xs := ⟨_, hown⟩
  clear hown
  go_wp2
  go_loopw [4] (fun i wr => ∃ (k : Nat) (qs : List PV), qs.length = k ∧ k ≤ ps.length ∧ i = .int .i64 k ∧ qs.map PV.d = (ps.take k).map PV.d ∧ (∃ xs, wr.ownsRow w.heap.size 72 2 (.slice (some ⟨w.heap.size, 0, none⟩) ps.length ps.length) ps.length (cellsOf patchC qs ++ xs)) ∧ RwPs wr w.heap.size qs ∧ PwPs qs ∧ Below w.heap.size w wr) (fun i _ => ps.length - (intOf i).toNat)
  case atStart => exact ⟨0, [], rfl, Nat.zero_le _, rfl, rfl, by simpa [cellsOf] using hown1, (fun p hp => by cases hp), List.Pairwise.nil, hb1⟩
  case round =>
    obtain ⟨k, qs, hql, hk, rfl, hd, ⟨xs, ho⟩, hrw, hpw, hb⟩ := hrel
    clear hown1 hb1
    by_cases hlt : k < ps.length
    · obtain ⟨b, off, rfl, hbg, hc⟩ := (hr.1.below hb).row patchC_len (by decide) hlt
      have hc0 := hc 0 _ rfl
      have hc1 := hc 1 _ rfl
      simp only [Nat.add_zero] at hc0
      have hll := ho.1
      have HO := hide ho
      have HB := hide hb
      have HR := hide (((hr.2 _ (List.getElem_mem hlt)).below hb).more hb.size)
      have HM := hide (hl _ (List.getElem_mem hlt))
      have HW := hide (And.intro hrw hpw)
      have HD := hide (show (qs ++ [ps[k]]).map PV.d = (ps.take (k + 1)).map PV.d by rw [take_succ hlt, List.map_append, List.map_append, hd])
      clear hr ho hb hc hrw hpw hd
      generalize ps[k] = p at *
      go_wp2_with fail
      refine (toPatch_any p.at_ p.A p.zs p.c _ HR.out HM.out).mono ?_
      rintro e w2 ⟨A1, c1, rfl, r1, hb2⟩
      have HF := HW.out.1.far HO.out
      have ho := own_call hb2 HO.out
      have hb' := HB.out.trans (hb2.mono HB.out.size)
      obtain ⟨⟨old0, hk0⟩, hfz0⟩ := own_old ho (j := k * 2) (by omega)
      obtain ⟨⟨old1, hk1⟩, hfz1⟩ := own_old ho (j := k * 2 + 1) (by omega)
      have hpl : (cellsOf patchC qs).length = k * 2 := by rw [cellsOf_len patchC_len, hql]
      have ho1 := own_put ho hpl (by omega) (.int .i64 p.at_)
      have ho2 := own_put ho1 (j := k * 2 + 1) (by simp only [List.length_append, hpl]; rfl) (by omega) (.slice A1 p.zs.length c1)
      have HF1 : ∀ k, blk A1 c1 = some k → k ≠ w.heap.size := by
        obtain ⟨cs, hbx⟩ := box_of_own ho
        exact r1.box hbx (by decide)
      have HO' := hide ho2
      have HB' := hide hb'
      have HW' := hide ((HW.out.1.call hb2).set2 (g := w.heap.size) (i := k * 2) (j := k * 2 + 1) HF (.int .i64 p.at_) (.slice A1 p.zs.length c1))
      have HQ' := hide (((r1.down HB.out.size).set (a := ⟨w.heap.size, k * 2, none⟩) HF1 (.int .i64 p.at_)).set (a := ⟨w.heap.size, k * 2 + 1, none⟩) HF1 (.slice A1 p.zs.length c1))
      have HP' := hide (HW.out.2.snoc (q := ⟨p.at_, A1, c1, p.zs⟩) (fun q hq j hj => ((HW.out.1 q hq).lt j hj).2) (fun j hj => (r1.lt j hj).1))
      clear ho ho1 ho2 hpl hb' HO HB hb2 HW HF HF1 r1 HR
      go_wp2_with fail
      refine ⟨⟨k + 1, qs ++ [⟨p.at_, A1, c1, p.zs⟩], by simp [hql], by omega, by go_num, ?_, ⟨xs.tail.tail, ?_⟩, ?_, HP'.out, ?_⟩, by simp [intOf]; omega⟩
      · rw [← HD.out]
        simp [PV.d]
      · rw [cells_snoc]
        simpa using HO'.out
      · exact HW'.out.snoc HQ'.out
      · exact (Below.setCell (Below.setCell HB'.out (Nat.le_refl _) _) (Nat.le_refl _) _)
    · have e : k = ps.length := by omega
      subst e
      have hxs : xs = [] := by
        have := ho.1
        rw [List.length_append, cellsOf_len patchC_len] at this
        exact List.eq_nil_of_length_eq_zero (by omega)
      subst hxs
      rw [List.take_length] at hd
      rw [List.append_nil] at ho
      have HH := hide (show RetPs (ps.map PV.d) w (.returned (.slice (some ⟨w.heap.size, 0, none⟩) ps.length ps.length)) _ from ⟨_, ps.length, qs, by rw [hql], hd, ⟨.inr (by rw [hql]; exact ho), hrw, hpw⟩, hb⟩)
      clear hr ho hd hrw hpw hb
      go_wp2
      go_ret
      exact HH.out
set_option maxRecDepth 20000 in
theorem eqPatchS_same (A A' : Option Addr) (ps qs : List PV) (c c' : Nat) (w : World) (hr : RdPs w w.heap.size A ps) (hr' : RdPs w w.heap.size A' qs) (hd : ps.map PV.d = qs.map PV.d) (hm : ps.length ≤ maxLen) (hl : ∀ p ∈ ps, p.zs.length ≤ maxLen) :
    Calls Try.prog 18 #[.slice A ps.length c, .slice A' qs.length c'] w (Ret (.bool true) w) := by
  unfold maxLen at hm
  have hlen : ps.length = qs.length := by simpa using congrArg List.length hd
  rw [← hlen]
  have HL := hide hlen
  clear hlen
  have h0 : (((ps.length : Nat) : Int) != (ps.length : Nat)) = false := by simp
  go_enter Try.func18, Try.ntmps18
  go_wp2
  clear h0
  go_loopw [5] (fun i wr => ∃ k : Nat, k ≤ ps.length ∧ i = .int .i64 k ∧ Below w.heap.size w wr) (fun i _ => ps.length - (intOf i).toNat)
  case atStart => exact ⟨0, Nat.zero_le _, rfl, Below.refl _ _⟩
  case round =>
    obtain ⟨k, hk, rfl, hb⟩ := hrel
    have HB := hide hb
    by_cases hlt : k < ps.length
    · obtain ⟨b, off, rfl, _, hc⟩ := (hr.1.below hb).row patchC_len (by decide) hlt
      obtain ⟨b', off', rfl, _, hd'⟩ := (hr'.1.below hb).row patchC_len (by decide) (show k < qs.length by rw [← HL.out]; exact hlt)
      have hc0 := hc 0 _ rfl
      have hd0 := hd' 0 _ rfl
      have hc1 := hc 1 _ rfl
      have hd1 := hd' 1 _ rfl
      simp only [Nat.add_zero] at hc0 hd0
      have hkq : k < qs.length := by rw [← HL.out]; exact hlt
      have hkd : (ps[k]).d = (qs[k]).d := by
        have := congrArg (fun l => l[k]?) hd
        simpa [List.getElem?_map, List.getElem?_eq_getElem hlt, List.getElem?_eq_getElem hkq] using this
      have HM := hide (hl _ (List.getElem_mem hlt))
      have HR1 := hide (((hr.2 _ (List.getElem_mem hlt)).below hb).more hb.size)
      have HR2 := hide (((hr'.2 _ (List.getElem_mem hkq)).below hb).more hb.size)
      clear hr hr' hc hd' hb hd
      generalize ps[k] = p at *
      generalize qs[k] = q at *
      obtain ⟨a1, A1, c1, z1⟩ := p
      obtain ⟨a2, A2, c2, z2⟩ := q
      simp only [PV.d, Prod.mk.injEq] at hkd
      obtain ⟨rfl, rfl⟩ := hkd
      simp only at hc0 hd0 hc1 hd1 HR1 HR2 HM
      go_wp2_with fail
      go_still_tail 8, (by kernel_rfl)
      change wpList _ _ _ _ _ wr.drew
      clear hc0 hd0 hc1 hd1
      go_wp2_with fail
      refine (eqPatch_same a1 A1 A2 z1 c1 c2 _ (by exact HR1.out) (by exact HR2.out) HM.out).mono ?_
      rintro e w2 ⟨rfl, hb2⟩
      have HB' := hide (HB.out.trans ((of_drew hb2).mono HB.out.size))
      clear hb2
      go_wp2_with fail
      go_roundw
      case rel =>
        exact ⟨k + 1, by omega, by go_num, HB'.out⟩
      case measure => simp [intOf]; omega
    · clear hr hr'
      go_wp2_with fail
      go_ret
      exact ⟨rfl, HB.out⟩
theorem szPatchS_any (A : Option Addr) (ps : List PV) (c : Nat) (left : Int) (w : World) (h0 : 0 ≤ left) (h1 : left ≤ 1048576) (hr : Rd w w.heap.size A (cellsOf patchC ps)) (hn : ps.length ≤ maxLen) (hl : ∀ p ∈ ps, p.zs.length ≤ maxLen) :
    Calls Try.prog 12 #[.slice A ps.length c, .int .i64 left] w fun e w' => (∃ r, e = .returned (.int .i64 r) ∧ (r = -1 ∨ 0 ≤ r ∧ ps.length + tot ps ≤ left)) ∧ Below w.heap.size w w' := by
  have hn' := hn
  unfold maxLen at hn'
  by_cases hf : left - ps.length < 0
  · go_enter Try.func12, Try.ntmps12
    clear hr
    go_wp2
    go_ret
    exact ⟨⟨_, rfl, .inl rfl⟩, Below.refl _ _⟩
  · go_enter Try.func12, Try.ntmps12
    have HR := hide hr
    clear hr
    go_wp2
    go_loopw [1, 5] (fun l i wr => ∃ (k : Nat) (x : Int), k ≤ ps.length ∧ i = .int .i64 k ∧ l = .int .i64 x ∧ 0 ≤ x ∧ x + (ps.length + (tot ps - tot (ps.drop k))) = left ∧ Below w.heap.size w wr) (fun _ i _ => ps.length - (intOf i).toNat)
    case atStart => exact ⟨0, left - ps.length, Nat.zero_le _, rfl, by go_num, by omega, by rw [List.drop_zero]; omega, Below.refl _ _⟩
    case round =>
      obtain ⟨k, x, hk, rfl, rfl, hx0, hx1, hb⟩ := hrel
      have HB := hide hb
      have hx2 : x ≤ left := by
        have := tot_drop_le ps k
        omega
      by_cases hlt : k < ps.length
      · obtain ⟨b, off, rfl, _, hc⟩ := (HR.out.below hb).row patchC_len (by decide) hlt
        have hc0 := hc 0 _ rfl
        have hc1 := hc 1 _ rfl
        simp only [Nat.add_zero] at hc0
        have HT := hide (tot_drop hlt)
        have HX := hide hx1
        have HM := hide (hl _ (List.getElem_mem hlt))
        clear hc hb hx1
        generalize ps[k] = p at *
        by_cases hs : x - p.zs.length < 0
        · have hz : szI x p.zs.length = -1 := by rw [szI, if_pos hs]
          have HZ := hide hz
          clear hz
          go_wp2_with fail
          refine (szPatch_any p.at_ p.A p.zs.length p.c x _ hx0 (by omega) HM.out).mono ?_
          rintro e w2 ⟨rfl, hb2⟩
          rw [HZ.out]
          have HB' := hide (HB.out.trans (hb2.mono HB.out.size))
          clear hb2
          go_wp2_with fail
          go_ret
          exact ⟨⟨_, rfl, .inl rfl⟩, HB'.out⟩
        · have hz : szI x p.zs.length = x - p.zs.length := by rw [szI, if_neg hs]
          have HZ := hide hz
          clear hz
          go_wp2_with fail
          refine (szPatch_any p.at_ p.A p.zs.length p.c x _ hx0 (by omega) HM.out).mono ?_
          rintro e w2 ⟨rfl, hb2⟩
          rw [HZ.out]
          have HB' := hide (HB.out.trans (hb2.mono HB.out.size))
          clear hb2
          go_wp2_with fail
          go_roundw
          case rel => exact ⟨k + 1, x - p.zs.length, by omega, by go_num, rfl, by omega, (by have h1 := HT.out; have h2 := HX.out; omega), HB'.out⟩
          case measure => simp [intOf]; omega
      · have hE : ps.length + tot ps ≤ left := by
          have e : k = ps.length := by omega
          subst e
          rw [List.drop_length] at hx1
          simp only [tot] at hx1
          omega
        have HE := hide hE
        clear hE hx1 hb
        go_wp2_with fail
        go_ret
        exact ⟨⟨_, rfl, .inr ⟨hx0, HE.out⟩⟩, HB.out⟩
end Go.Proofs.Ytjnnjgogpapbhaa.CPatches
