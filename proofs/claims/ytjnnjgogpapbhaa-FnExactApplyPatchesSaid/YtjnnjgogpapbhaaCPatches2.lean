/- Contracts on []Patch: the marks, and l1OwnPatchList. -/
import Derived.Test.YtjnnjgogpapbhaaCPatches
namespace Go.Proofs.Ytjnnjgogpapbhaa.CPatches2
set_option maxRecDepth 200000
open Go.ChangeShapes Go.WideShapes Go.ChangeAt Go.RowKit Kit CImage CPatch PPatch BPatch CPatches
theorem Gp.set {p : Nat → Prop} {w : World} {a : Addr} (ha : p a.block) (u : Value) : Gp p w (w.setCell a u) :=
  ⟨rfl, rfl, rfl, by simp [World.setCell], fun k _ hp => Below.heap_setCell w a u k (fun e => hp (e ▸ ha))⟩
theorem drop_at {ps : List PV} {j : Nat} (h : j < ps.length) : ps.drop j = ps[j] :: ps.drop (j + 1) := List.drop_eq_getElem_cons h
theorem markPatchS_any (base : Nat) (A : Option Addr) (c : Nat) (ps : List PV) (k0 : Int) (w : World) (h0 : 0 ≤ k0) (hk0 : k0 + ps.length + tot ps ≤ 4294967296) (h : OwnPs w base A c ps) :
    Calls Try.prog 20 #[.slice A ps.length c, .int .i64 k0] w fun e w' => (∃ r, e = .returned (.int .i64 r) ∧ 0 ≤ r) ∧ Gp (pblk A c ps) w w' := by
  have hn : ps.length ≤ maxLen := Nat.le_trans h.1.cap.1 h.1.cap.2
  unfold maxLen at hn
  have HP := hide h.2.2
  have HA := hide (And.intro h.1 h.2.1)
  have HK := hide hk0
  clear h hk0
  go_enter Try.func20, Try.ntmps20
  go_wp2
  go_loopw [1, 5] (fun k i wr => ∃ (j : Nat) (x : Int) (pre : List Value), j ≤ ps.length ∧ i = .int .i64 j ∧ k = .int .i64 x ∧ 0 ≤ x ∧ x + ((ps.length : Int) - j) + tot (ps.drop j) ≤ 4294967296 ∧ pre.length = j * 2 ∧ Row wr base 72 2 A ps.length c (pre ++ cellsOf patchC (ps.drop j)) ∧ RwPs wr base (ps.drop j) ∧ Gp (pblk A c ps) w wr) (fun _ i _ => ps.length - (intOf i).toNat)
  case atStart => exact ⟨0, k0, [], Nat.zero_le _, rfl, rfl, h0, by rw [List.drop_zero]; have := HK.out; omega, rfl, by rw [List.drop_zero]; exact HA.out.1, by rw [List.drop_zero]; exact HA.out.2, Gp.refl _ _⟩
  case round =>
    obtain ⟨j, x, pre, hj, rfl, rfl, hx0, hx1, hpl, ho, hrw, hg⟩ := hrel
    clear HA HK h0
    by_cases hlt : j < ps.length
    · have hc : c ≠ 0 := by
        have := ho.cap.1
        omega
      have hown : wr.ownsRow base 72 2 (.slice A ps.length c) ps.length (pre ++ cellsOf patchC (ps.drop j)) := ho.elim (fun h => absurd h.2.1 hc) id
      have hform : ∃ g, A = some ⟨g, 0, none⟩ := by
        rcases hown.2 with ⟨hv, h0⟩ | ⟨g, cap, cur, hv, _⟩
        · omega
        · injection hv with hA
          exact ⟨g, hA⟩
      obtain ⟨g, rfl⟩ := hform
      have hbk : blk (some ⟨g, 0, none⟩) c = some g := by
        unfold blk
        rw [if_neg hc]
        rfl
      have HT := hide (tot_drop hlt)
      have hd := drop_at hlt
      have hpw : PwPs (ps.drop j) := List.Pairwise.drop HP.out
      have hin : ps[j] ∈ ps := List.getElem_mem hlt
      rw [hd] at hown hrw hpw
      have HIN := hide (And.intro hin (tot_nonneg (ps.drop (j + 1))))
      have HX := hide hx1
      have hx2 : x ≤ 4294967295 := by
        have := tot_nonneg (ps.drop j)
        omega
      clear hx1 hd ho hin
      generalize hrest : ps.drop (j + 1) = rest at *
      have HREST := hide hrest
      clear hrest
      generalize ps[j] = p at *
      have hcell : cellsOf patchC (p :: rest) = .int .i64 p.at_ :: .slice p.A p.zs.length p.c :: cellsOf patchC rest := by simp [cellsOf, patchC]
      rw [hcell] at hown
      have hl := hown.1
      obtain ⟨⟨old0, hk0⟩, hfz0⟩ := own_old hown (j := j * 2) (by omega)
      have hk1 : wr.cell? ⟨g, j * 2 + 1, none⟩ = some (.slice p.A p.zs.length p.c) := by
        rw [hown.cellAt (j * 2 + 1) (by omega), List.getElem?_append_right (by omega), hpl]
        simp
      have hf := hrw.far hown
      have ho1 := own_put hown hpl (by omega) (.int .i64 x)
      simp only [List.tail_cons] at ho1
      have hrw1 : RwPs (wr.setCell ⟨g, j * 2, none⟩ (.int .i64 x)) base (p :: rest) := fun q hq => (hrw q hq).set (a := ⟨g, j * 2, none⟩) (hf q hq) (.int .i64 x)
      have HO := hide ho1
      have HW := hide hrw1
      have HF := hide hf
      have HPW := hide hpw
      have HB := hide hbk
      have HG := hide (hg.trans (Gp.set (p := pblk (some ⟨g, 0, none⟩) c ps) (a := ⟨g, j * 2, none⟩) (.inl hbk) (.int .i64 x)))
      have HL := hide hpl
      clear hown ho1 hrw hrw1 hf hpw hbk hg hpl hcell hl
      go_wp2_with fail
      refine (mark_row base p.A p.c p.zs (x + 1) _ (by omega) (by omega) ?hm (HW.out p (by simp))).mono ?_
      case hm =>
        have := HX.out
        have := HT.out
        have := HIN.out.2
        omega
      rintro e w2 ⟨rfl, r2, g2⟩
      have HO2 := hide (show Row w2 base 72 2 (some ⟨g, 0, none⟩) ps.length c _ from Row.grown (.inr HO.out) g2 (fun k hk hk' => HF.out p (by simp) k hk' (by rw [HB.out] at hk; exact (Option.some.inj hk).symm)))
      have HW2 := hide (show RwPs w2 base rest from fun q hq => (HW.out q (by simp [hq])).grown g2 (fun k hk hk' => (List.pairwise_cons.1 HPW.out).1 q hq k hk' hk))
      have HG2 := hide (HG.out.trans (Gp.of_grown g2 (fun k hk => .inr ⟨p, HIN.out.1, hk⟩)))
      clear r2 g2 HO HW HF HPW HG HB
      go_wp2_with fail
      refine ⟨⟨j + 1, x + 1 + p.zs.length, pre ++ [.int .i64 x, .slice p.A p.zs.length p.c], by omega, by go_num, rfl, by omega, ?_, by simp [HL.out]; omega, ?_, ?_, HG2.out⟩, by simp [intOf]; omega⟩
      · rw [HREST.out]
        have := HX.out
        have := HT.out
        omega
      · rw [HREST.out]
        simpa using HO2.out
      · rw [HREST.out]
        exact HW2.out
    · clear ho hrw hpl
      go_wp2
      go_ret
      exact ⟨⟨x, rfl, hx0⟩, hg⟩
theorem l1OwnPatchList_any (A : Option Addr) (ps : List PV) (c : Nat) (w : World) (hr : RdPs w w.heap.size A ps) (hm : ps.length ≤ 1048576) (hl : ∀ p ∈ ps, p.zs.length ≤ 1048576) (hnil : ∀ p ∈ ps, p.A = none → p.c = 0) :
    Calls Try.prog 45 #[.slice A ps.length c] w (RetPs (ps.map PV.d) w) := by
  obtain ⟨i0, hi, hz0, hz1, hz2⟩ := info_parts info
  go_enter Try.func45, Try.ntmps45
  go_wp2_with fail
  have hb0 : Below w.heap.size w (w.alloc (.cells #[] 72)) := (by repeat (first | exact Below.refl _ _ | with_reducible assumption | (refine Below.drew ?_) | (refine Below.drewN ?_ _) | (refine Below.alloc ?_ (by simp; try omega) _) | (refine Below.setCell ?_ (by simp; try omega) _)))
  go_loopw [3, 4] (fun v i wr => ∃ (k : Nat) (qs : List PV) (A1 : Option Addr) (c1 : Nat), qs.length = k ∧ k ≤ ps.length ∧ i = .int .i64 k ∧ v = .slice A1 k c1 ∧ qs.map PV.d = (ps.take k).map PV.d ∧ OwnPs wr w.heap.size A1 c1 qs ∧ Below w.heap.size w wr) (fun _ i _ => ps.length - (intOf i).toNat)
  case atStart => exact ⟨0, [], some ⟨w.heap.size, 0, none⟩, 0, rfl, Nat.zero_le _, rfl, rfl, rfl, ⟨Row.empty _ _ _ _ _, (fun p hp => by cases hp), List.Pairwise.nil⟩, hb0⟩
  case round =>
    obtain ⟨k, qs, A1, c1, hql, hk, rfl, rfl, hd, ho, hb⟩ := hrel
    clear hb0
    by_cases hlt : k < ps.length
    · obtain ⟨b, off, rfl, hbg, hc⟩ := (hr.1.below hb).row patchC_len (by decide) hlt
      have hc0 := hc 0 _ rfl
      have hc1 := hc 1 _ rfl
      simp only [Nat.add_zero] at hc0
      have HO := hide ho
      have HB := hide hb
      have HR := hide (((hr.2 _ (List.getElem_mem hlt)).below hb).more hb.size)
      have HM := hide (And.intro (hl _ (List.getElem_mem hlt)) (hnil _ (List.getElem_mem hlt)))
      have HD := hide (show (qs ++ [ps[k]]).map PV.d = (ps.take (k + 1)).map PV.d by rw [take_succ hlt, List.map_append, List.map_append, hd])
      have HQ := hide hql
      have HI := hide (And.intro hi (And.intro hz0 (And.intro hz1 hz2)))
      clear hr ho hb hc hd hql hi hz0 hz1 hz2
      generalize ps[k] = p at *
      go_wp2_with fail
      refine (l1OwnPatch_any p.at_ p.A p.zs p.c _ HR.out HM.out.1 HM.out.2).mono ?_
      rintro e w2 ⟨A2, c2, rfl, r2, hb2⟩
      have HR2 := hide r2
      have HB2 := hide (HB.out.trans (hb2.mono HB.out.size))
      have HO2 := hide (HO.out.call hb2)
      have HS := hide (And.intro hb2.size HB.out.size)
      have HLT := hide (fun j hj => (HO.out.lt j hj).2)
      clear r2 hb2 HO HB HR hc0 hc1
      go_wp2_with (at_builtin; refine wpList_app (w2.alloc (.cells #[.int .i64 p.at_, .slice A2 p.zs.length c2] 72)) rfl (.tmp 12) (.tmp 18) 39 rfl 72 i0 (.agg #[.int .i64 0, .slice none 0 0]) 2 32 Try.underlying39 HI.out.1 HI.out.2.1 HI.out.2.2.1 HI.out.2.2.2 rfl (by decide) w.heap.size A1 k c1 (cellsOf patchC qs) rfl (by have := HO2.out.1.alloc (.cells #[.int .i64 p.at_, .slice A2 p.zs.length c2] 72); rw [HQ.out] at this; exact this) ?hb (some ⟨w2.heap.size, 0, none⟩) 1 1 [.int .i64 p.at_, .slice A2 p.zs.length c2] rfl (rd_lit w2 #[.int .i64 p.at_, .slice A2 p.zs.length c2] 72 _ rfl) rfl (fun h => by cases h) ?o1 ?n1 ?n2 ?_)
      case hb => exact Nat.le_trans HB2.out.size (by simp)
      case o1 => intro u hu; simp only [List.mem_cons, List.not_mem_nil, or_false] at hu; rcases hu with rfl | rfl <;> rfl
      case n1 => unfold maxLen; omega
      case n2 => omega
      intro A3 n3 c3 w3 hn3 o3 g3 k3
      have HN := hide hn3
      have HB3 := hide (show Below w.heap.size w w3 from (HB2.out.alloc HB2.out.size _).grown g3 (by have := HB2.out.size; simp; omega) (fun j hj => (HO2.out.lt j (.inl hj)).1))
      have HP := hide (show OwnPs w3 w.heap.size A3 c3 (qs ++ [⟨p.at_, A2, c2, p.zs⟩]) from by
        refine ⟨?_, ?_, ?_⟩
        · rw [cells_snoc, List.length_append, HQ.out]
          rw [hn3] at o3
          exact o3
        · refine RwPs.snoc ?_ ?_
          · intro q hq
            exact ((HO2.out.2.1 q hq).alloc _).grown g3 (fun j hj hj' => (HO2.out.2.1 q hq).apart_type HO2.out.1 (by decide) j hj hj')
          · refine ((HR2.out.down (Nat.le_trans HS.out.2 (Nat.le_refl _))).alloc _).grown g3 (fun j hj hj' => ?_)
            have h1 := (HR2.out.lt j hj).1
            have h2 := HLT.out j (.inl hj')
            omega
        · exact HO2.out.2.2.snoc (q := ⟨p.at_, A2, c2, p.zs⟩) (fun q hq j hj => HLT.out j (.inr ⟨q, hq, hj⟩)) (fun j hj => (HR2.out.lt j hj).1))
      clear o3 g3 k3 hn3 HO2 HR2 HB2 HS HLT
      obtain rfl := HN.out
      go_wp2_with fail
      refine ⟨⟨k + 1, qs ++ [⟨p.at_, A2, c2, p.zs⟩], A3, c3, by simp [HQ.out], by omega, by go_num, rfl, ?_, HP.out, HB3.out⟩, by simp [intOf]; omega⟩
      rw [← HD.out]
      simp [PV.d]
    · have e : k = ps.length := by omega
      subst e
      rw [List.take_length] at hd
      have HH := hide (show RetPs (ps.map PV.d) w (.returned (.slice A1 ps.length c1)) _ from ⟨A1, c1, qs, by rw [hql], hd, ho, hb⟩)
      clear hr ho hd hb
      go_wp2
      go_ret
      exact HH.out
end Go.Proofs.Ytjnnjgogpapbhaa.CPatches2
