/- Contracts of PatchesValid, the reference's and the program's. -/
import Derived.Test.YtjnnjgogpapbhaaCPatches2
namespace Go.Proofs.Ytjnnjgogpapbhaa.CPatValid
set_option maxRecDepth 200000
open Go.ChangeShapes Go.WideShapes Go.ChangeAt Go.RowKit Kit CCode CImage CPatch PPatch BPatch CPatches
/-- What the reference answers. -/
def spOk (b : Int) (n : Nat) (ds : List PD) : Bool := okW b n b ds && (imgOk b n && decide (ds.length ≤ 1000))
/-- What the program answers. -/
def imOk (b : Int) (n : Nat) (ds : List PD) : Bool := imgOk b n && decide (ds.length ≤ 1000) && okP (b + n) b ds
theorem imgOk_bounds {b : Int} {n : Nat} (h : imgOk b n = true) : 0 ≤ b ∧ b ≤ 4096 ∧ n ≤ 2000 := by
  simp only [imgOk, Bool.and_eq_true, decide_eq_true_eq] at h
  exact ⟨h.1.1.1, h.1.1.2, h.2⟩
theorem spOk_eq {b : Int} {n : Nat} {ds : List PD} (hl : ∀ d ∈ ds, (d.2.length : Int) ≤ 1048576) : spOk b n ds = imOk b n ds := by
  unfold spOk imOk
  cases h : imgOk b n
  · simp
  · obtain ⟨h0, h1, h2⟩ := imgOk_bounds h
    rw [okW_eq h0 h1 h2 ds b hl h0]
    cases decide (ds.length ≤ 1000) <;> cases okP (b + n) b ds <;> rfl
theorem okW_drop {b x : Int} {n : Nat} {ps : List PV} {k : Nat} (h : k < ps.length) : okW b n x ((ps.map PV.d).drop k) = okW b n x (ps[k].d :: (ps.map PV.d).drop (k + 1)) := by
  rw [List.drop_eq_getElem_cons (show k < (ps.map PV.d).length by simpa using h)]
  simp
theorem okP_drop {hi x : Int} {ps : List PV} {k : Nat} (h : k < ps.length) : okP hi x ((ps.map PV.d).drop k) = okP hi x (ps[k].d :: (ps.map PV.d).drop (k + 1)) := by
  rw [List.drop_eq_getElem_cons (show k < (ps.map PV.d).length by simpa using h)]
  simp
theorem patchesValidS_any (b : Int) (Ai : Option Addr) (n ci : Nat) (A : Option Addr) (ps : List PV) (c : Nat) (w : World) (hn : n ≤ 1048576) (hr : Rd w w.heap.size A (cellsOf patchC ps)) (hm : ps.length ≤ 1048576) (hl : ∀ p ∈ ps, p.zs.length ≤ 1048576) :
    Calls Try.prog 46 #[.agg #[.int .i64 b, .slice Ai n ci], .slice A ps.length c] w (Ret (.bool (spOk b n (ps.map PV.d))) w) := by
  have hb0 : Below w.heap.size w (w.alloc (.cells #[.int .i64 b, .slice Ai n ci] 35)) := (by repeat (first | exact Below.refl _ _ | with_reducible assumption | (refine Below.drew ?_) | (refine Below.drewN ?_ _) | (refine Below.alloc ?_ (by simp; try omega) _) | (refine Below.setCell ?_ (by simp; try omega) _)))
  have hx0 := Box.new w 35 #[.int .i64 b, .slice Ai n ci]
  have HR := hide hr
  have hnm : n ≤ maxLen := by unfold maxLen; omega
  have HE := hide (show spOk b n (ps.map PV.d) = (okW b n b (ps.map PV.d) && (imgOk b n && decide (ps.length ≤ 1000))) by unfold spOk; rw [List.length_map])
  clear hr
  go_enter Try.func46, Try.ntmps46
  go_wp2_with fail
  generalize w.alloc (.cells #[.int .i64 b, .slice Ai n ci] 35) = w0 at *
  generalize spOk b n (ps.map PV.d) = res at *
  go_loopw [5, 6] (fun a i wr => ∃ (k : Nat) (x : Int), k ≤ ps.length ∧ i = .int .i64 k ∧ a = .int .i64 x ∧ okW b n b (ps.map PV.d) = okW b n x ((ps.map PV.d).drop k) ∧ Box wr w.heap.size 35 #[.int .i64 b, .slice Ai n ci] ∧ Below w.heap.size w wr) (fun _ i _ => ps.length - (intOf i).toNat)
  case atStart => exact ⟨0, b, Nat.zero_le _, rfl, rfl, by rw [List.drop_zero], hx0, hb0⟩
  case round =>
    obtain ⟨k, x, hk, rfl, rfl, hx, hbx, hb⟩ := hrel
    clear hx0 hb0
    have q0 := hbx.cell 0
    have q1 := hbx.cell 1
    simp only [List.getElem?_toArray, List.getElem?_cons_zero, List.getElem?_cons_succ] at q0 q1
    have HB := hide hb
    have HX := hide hbx
    by_cases hlt : k < ps.length
    · obtain ⟨bb, off, rfl, hbg, hc⟩ := (HR.out.below hb).row patchC_len (by decide) hlt
      have hc0 := hc 0 _ rfl
      have hc1 := hc 1 _ rfl
      simp only [Nat.add_zero] at hc0
      have HM := hl _ (List.getElem_mem hlt)
      rw [okW_drop hlt] at hx
      have HO := hide hx
      have hs := hbx.lt
      clear hc hb hbx hx
      generalize ps[k] = p at *
      have hz : (p.zs.length : Int) ≤ 1048576 := by omega
      have HB2 := hide (HB.out.alloc HB.out.size (.cells #[.int .i64 p.at_, .slice p.A p.zs.length p.c] 72))
      have HX2 := hide (HX.out.alloc (.cells #[.int .i64 p.at_, .slice p.A p.zs.length p.c] 72))
      by_cases k1 : p.at_ < x
      · have HF := hide (show res = false by rw [HE.out, HO.out]; simp [okW, PV.d, k1])
        go_wp2_with fail
        go_ret
        exact ⟨ret_bool HF.out.symm, HB2.out⟩
      · have k1' : decide (p.at_ < x) = false := decide_eq_false k1
        by_cases k2 : p.zs.length = 0
        · have HF := hide (show res = false by rw [HE.out, HO.out]; simp [okW, PV.d, k2])
          have k2' : (((p.zs.length : Nat) : Int) == 0) = true := by rw [k2]; rfl
          have K2 := hide k2
          clear k2
          go_wp2_with fail
          go_ret
          exact ⟨ret_bool HF.out.symm, HB2.out⟩
        · have k2' : (((p.zs.length : Nat) : Int) == 0) = false := by simpa using k2
          by_cases k3 : wrap64 (wrap64 (b + n) - p.zs.length) < p.at_
          · have HF := hide (show res = false by rw [HE.out, HO.out]; have k3' : wrap64 (wrap64 (b + n) - p.zs.length) < p.at_ := k3; simp [okW, PV.d, k3'])
            have K2 := hide k2
            clear k2
            go_wp2_with fail
            go_ret
            exact ⟨ret_bool HF.out.symm, HB2.out⟩
          · have k3' : decide (wrap64 (wrap64 (b + n) - p.zs.length) < p.at_) = false := decide_eq_false k3
            have HO2 := hide (show okW b n x (p.d :: (ps.map PV.d).drop (k + 1)) = okW b n (wrap64 (wrap64 (p.at_ + p.zs.length) + 1)) ((ps.map PV.d).drop (k + 1)) by have k4 : ¬ wrap64 (wrap64 (b + n) - p.zs.length) < p.at_ := k3; have k5 : p.zs ≠ [] := fun h => k2 (by rw [h]; rfl); show okW b n x _ = okW b n (wrap64 (wrap64 (p.at_ + p.zs.length) + 1)) _; simp [okW, PV.d, k1, k4, k5])
            have K2 := hide k2
            clear k2
            go_wp2_with fail
            go_roundw
            case rel => exact ⟨k + 1, _, by omega, by go_num, rfl, by rw [HO.out, HO2.out], HX2.out, HB2.out⟩
            case measure => simp [intOf]; omega
    · have e : k = ps.length := by omega
      subst e
      rw [List.drop_eq_nil_of_le (by simp)] at hx
      have HF := hide (show res = (imgOk b n && decide (ps.length ≤ 1000)) by rw [HE.out, hx]; simp [okW])
      have HV := hide (fun W => imageValidS_any b Ai n ci W hnm)
      clear hx hb hbx
      generalize imgOk b n = v at *
      go_wp2_with fail
      refine (HV.out _).mono ?_
      rintro e w2 ⟨rfl, hb2⟩
      have HB' := hide (HB.out.trans (hb2.mono HB.out.size))
      clear hb2
      cases v
      · go_wp2_with fail
        go_ret
        exact ⟨ret_bool (by rw [HF.out]; simp), HB'.out⟩
      · by_cases h5 : ps.length ≤ 1000
        · go_wp2_with fail
          go_ret
          exact ⟨ret_bool (by rw [HF.out]; simp [h5]; omega), HB'.out⟩
        · have h5' : decide ((ps.length : Int) ≤ 1000) = false := decide_eq_false (by omega)
          go_wp2_with fail
          go_ret
          exact ⟨ret_bool (by rw [HF.out]; simp [h5]), HB'.out⟩
theorem patchesValid_any (b : Int) (Ai : Option Addr) (n ci : Nat) (A : Option Addr) (ps : List PV) (c : Nat) (w : World) (hn : n ≤ 1048576) (hr : Rd w w.heap.size A (cellsOf patchC ps)) (hm : ps.length ≤ 1048576) (hl : ∀ p ∈ ps, p.zs.length ≤ 1048576) :
    Calls Try.prog 48 #[.agg #[.int .i64 b, .slice Ai n ci], .slice A ps.length c] w (Ret (.bool (imOk b n (ps.map PV.d))) w) := by
  have hb0 : Below w.heap.size w (w.alloc (.cells #[.int .i64 b, .slice Ai n ci] 35)) := (by repeat (first | exact Below.refl _ _ | with_reducible assumption | (refine Below.drew ?_) | (refine Below.drewN ?_ _) | (refine Below.alloc ?_ (by simp; try omega) _) | (refine Below.setCell ?_ (by simp; try omega) _)))
  have hx0 := Box.new w 35 #[.int .i64 b, .slice Ai n ci]
  have HR := hide hr
  have hnm : n ≤ maxLen := by unfold maxLen; omega
  have HE := hide (show imOk b n (ps.map PV.d) = (imgOk b n && decide (ps.length ≤ 1000) && okP (b + n) b (ps.map PV.d)) by unfold imOk; rw [List.length_map])
  have HV := hide (fun W => imageValid_any b Ai n ci W hnm)
  have HBD := hide (fun h => imgOk_bounds (b := b) (n := n) h)
  clear hr
  go_enter Try.func48, Try.ntmps48
  go_wp2_with fail
  generalize w.alloc (.cells #[.int .i64 b, .slice Ai n ci] 35) = w0 at *
  generalize imOk b n (ps.map PV.d) = res at *
  generalize imgOk b n = v at *
  refine (HV.out _).mono ?_
  rintro e w1 ⟨rfl, hb1⟩
  have hx1 := hx0.call hb1
  have HB1 := hide (hb0.trans (hb1.mono hb0.size))
  clear hb1 hx0 hb0
  cases v
  · go_wp2_with fail
    go_ret
    exact ⟨ret_bool (by rw [HE.out]; simp), HB1.out⟩
  · obtain ⟨bd0, bd1, bd2⟩ := HBD.out rfl
    by_cases h5 : ps.length ≤ 1000
    · have HF0 := hide (show res = okP (b + n) b (ps.map PV.d) by rw [HE.out]; simp [h5])
      have q0 := hx1.cell 0
      have q1 := hx1.cell 1
      simp only [List.getElem?_toArray, List.getElem?_cons_zero, List.getElem?_cons_succ] at q0 q1
      have HX1 := hide hx1
      clear hx1
      go_wp2_with fail
      go_quiet (fail)
      clear q0 q1
      go_wp2_with fail
      go_loopw [5, 27] (fun a i wr => ∃ (k : Nat) (x : Int), k ≤ ps.length ∧ i = .int .i64 k ∧ a = .int .i64 x ∧ 0 ≤ x ∧ x ≤ 1048576 ∧ okP (b + n) b (ps.map PV.d) = okP (b + n) x ((ps.map PV.d).drop k) ∧ Below w.heap.size w wr) (fun _ i _ => ps.length - (intOf i).toNat)
      case atStart => exact ⟨0, b, Nat.zero_le _, rfl, rfl, bd0, by omega, by rw [List.drop_zero], Kit.Below.drewN HB1.out _⟩
      case round =>
        obtain ⟨k, x, hk, rfl, rfl, hx0, hx1, hx, hb⟩ := hrel
        have HB := hide hb
        have hs := hb.size
        by_cases hlt : k < ps.length
        · obtain ⟨bb, off, rfl, hbg, hc⟩ := (HR.out.below hb).row patchC_len (by decide) hlt
          have hc0 := hc 0 _ rfl
          have hc1 := hc 1 _ rfl
          simp only [Nat.add_zero] at hc0
          have HM := hl _ (List.getElem_mem hlt)
          rw [okP_drop hlt] at hx
          have HO := hide hx
          clear hc hb hx
          generalize ps[k] = p at *
          have hz : (p.zs.length : Int) ≤ 1048576 := by omega
          have HB2 := hide (HB.out.alloc HB.out.size (.cells #[.int .i64 p.at_, .slice p.A p.zs.length p.c] 72))
          by_cases k2 : p.zs.length = 0
          · have HF := hide (show res = false by rw [HF0.out, HO.out]; simp [okP, PV.d, k2])
            have k2' : (((p.zs.length : Nat) : Int) == 0) = true := by rw [k2]; rfl
            have K2 := hide k2
            clear k2
            go_wp2_with fail
            go_ret
            exact ⟨ret_bool HF.out.symm, HB2.out⟩
          · have k2' : (((p.zs.length : Nat) : Int) == 0) = false := by simpa using k2
            have K2 := hide k2
            clear k2
            go_wp2_with fail
            refine (within_any p.at_ x (b + n - p.zs.length) _).mono ?_
            rintro e w2 ⟨rfl, rfl⟩
            by_cases k3 : x ≤ p.at_ ∧ p.at_ ≤ b + n - p.zs.length
            · rw [inB_t k3]
              obtain ⟨k3, k4⟩ := k3
              have HO2 := hide (show okP (b + n) x (p.d :: (ps.map PV.d).drop (k + 1)) = okP (b + n) (p.at_ + p.zs.length + 1) ((ps.map PV.d).drop (k + 1)) by have k5 : p.zs ≠ [] := fun h => K2.out (by rw [h]; rfl); simp [okP, PV.d, k3, k4, k5])
              go_wp2_with fail
              go_roundw
              case rel => exact ⟨k + 1, p.at_ + p.zs.length + 1, by omega, by go_num, rfl, by omega, by omega, by rw [HO.out, HO2.out], HB2.out⟩
              case measure => simp [intOf]; omega
            · rw [inB_f k3]
              have HF := hide (show res = false by
                rw [HF0.out, HO.out]
                simp only [okP, PV.d]
                by_cases j1 : x ≤ p.at_
                · have j2 : ¬ p.at_ ≤ b + n - p.zs.length := fun h => k3 ⟨j1, h⟩
                  simp [j2]
                · simp [j1])
              go_wp2_with fail
              go_ret
              exact ⟨ret_bool HF.out.symm, HB2.out⟩
        · have e : k = ps.length := by omega
          subst e
          rw [List.drop_eq_nil_of_le (by simp)] at hx
          have HF := hide (show res = true by rw [HF0.out, hx]; rfl)
          clear hx hb
          go_wp2_with fail
          go_ret
          exact ⟨ret_bool HF.out.symm, HB.out⟩
    · have h5' : decide ((ps.length : Int) > 1000) = true := decide_eq_true (by omega)
      go_wp2_with fail
      go_ret
      exact ⟨ret_bool (by rw [HE.out]; simp [h5]), HB1.out⟩
end Go.Proofs.Ytjnnjgogpapbhaa.CPatValid
