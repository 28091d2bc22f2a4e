/- Contracts of LandmarkBefore, the program's and the reference's. -/
import Derived.Test.YtjnnjgogpapbhaaDoorCLandmarks
import Derived.Test.YtjnnjgogpapbhaaDoorCCode
import Derived.Deep.QuietTactic
import Derived.BigQuiet
namespace Go.Proofs.YtjnnjgogpapbhaaDoor.CLandmarkBefore
set_option maxRecDepth 200000
open Go.ChangeShapes Go.WideShapes Go.ChangeAt Go.RowKit Kit CCode CLandmarks
/-- The best landmark of a list: the last one of those with the greatest place at or before at_. -/
def better (at_ : Int) (b : Option D) (z : D) : Option D := if z.2 ≤ at_ ∧ (∀ y, b = some y → y.2 ≤ z.2) then some z else b
def bestL (zs : List D) (at_ : Int) : Option D := zs.foldl (better at_) none
theorem bestL_snoc (zs : List D) (z : D) (at_ : Int) : bestL (zs ++ [z]) at_ = better at_ (bestL zs at_) z := by simp [bestL]
def res (b : Option D) : Value := match b with
  | none => .tuple #[.agg #[.string ⟨#[]⟩, .int .i64 0], .bool false]
  | some z => .tuple #[.agg #[.string z.1, .int .i64 z.2], .bool true]
theorem best_keep {at_ : Int} {zs : List D} {k : Nat} (hk : k < zs.length) (h : ¬ (zs[k].2 ≤ at_ ∧ (∀ y, bestL (zs.take k) at_ = some y → y.2 ≤ zs[k].2))) : bestL (zs.take (k + 1)) at_ = bestL (zs.take k) at_ := by
  rw [take_succ hk, bestL_snoc, better, if_neg h]
theorem best_new {at_ : Int} {zs : List D} {k : Nat} (hk : k < zs.length) (h : zs[k].2 ≤ at_ ∧ (∀ y, bestL (zs.take k) at_ = some y → y.2 ≤ zs[k].2)) : bestL (zs.take (k + 1)) at_ = some zs[k] := by
  rw [take_succ hk, bestL_snoc, better, if_pos h]
/-- What the number of the best landmark of the first k says. -/
def Best (zs : List D) (at_ : Int) (k : Nat) (b : Value) : Prop :=
  (bestL (zs.take k) at_ = none ∧ b = .int .i64 (-1)) ∨ ∃ (m : Nat) (h : m < zs.length), b = .int .i64 m ∧ bestL (zs.take k) at_ = some zs[m]
theorem landmarkBefore_any (A : Option Addr) (zs : List D) (c : Nat) (at_ : Int) (w : World) (hr : Rd w w.heap.size A (cellsOf landmarkC zs)) (hm : zs.length ≤ maxLen) :
    Calls Tryd.prog 19 #[.slice A zs.length c, .int .i64 at_] w (Ret (res (bestL zs at_)) w) := by
  unfold maxLen at hm
  go_enter Tryd.func19, Tryd.ntmps19
  go_wp2
  have hB0 : Below w.heap.size w (w.alloc (.cells #[.string ⟨#[]⟩, .int .i64 0] 40)) := (by repeat (first | exact Below.refl _ _ | with_reducible assumption | (refine Below.drew ?_) | (refine Below.drewN ?_ _) | (refine Below.alloc ?_ (by simp; try omega) _) | (refine Below.setCell ?_ (by simp; try omega) _)))
  obtain ⟨W0, hW0⟩ : ∃ W0, W0 = w.alloc (.cells #[.string ⟨#[]⟩, .int .i64 0] 40) := ⟨_, rfl⟩
  have k0 : W0.cell? ⟨w.heap.size, 0, none⟩ = some (.string ⟨#[]⟩) := by subst hW0; simp
  have k1 : W0.cell? ⟨w.heap.size, 1, none⟩ = some (.int .i64 0) := by subst hW0; simp
  have kf : ∀ j, W0.frozen? ⟨w.heap.size, j, none⟩ = false := by intro j; subst hW0; simp
  have kz : W0.heap.size = w.heap.size + 1 := by subst hW0; simp
  rw [← hW0] at hB0 ⊢
  have HB0 := hide hB0
  have K0 := hide k0
  have K1 := hide k1
  have KF := hide kf
  have KZ := hide kz
  clear hW0 hB0 k0 k1 kf kz
  go_loopw [6, 11] (fun b i wr => ∃ k : Nat, k ≤ zs.length ∧ i = .int .i64 k ∧ Best zs at_ k b ∧ Below W0.heap.size W0 wr) (fun _ i _ => zs.length - (intOf i).toNat)
  case atStart => exact ⟨0, Nat.zero_le _, rfl, .inl ⟨rfl, rfl⟩, Below.refl _ _⟩
  case round =>
    obtain ⟨k, hk, rfl, hbest, hb⟩ := hrel
    have HB := hide hb
    have hbw := HB0.out.trans (hb.mono HB0.out.size)
    by_cases hlt : k < zs.length
    · obtain ⟨b, off, rfl, hbb, hc⟩ := (hr.below hbw).row landmarkC_len (by decide) hlt
      have hc0 := hc 0 _ rfl
      have hc1 := hc 1 _ rfl
      simp only [Nat.add_zero] at hc0
      have hbw' : b < wr.heap.size := Nat.lt_of_lt_of_le hbb hbw.size
      rcases hbest with ⟨hn, rfl⟩ | ⟨m, hml, rfl, hs⟩
      · by_cases h1 : zs[k].2 ≤ at_
        · have HT := hide (best_new hlt ⟨h1, fun y hy => by rw [hn] at hy; cases hy⟩)
          have HI := hide hlt
          have HE : Hid (∀ z, zs[k] = z → bestL (zs.take (k + 1)) at_ = some zs[k]) := fun _ _ => HT.out
          clear hr hb hbw hc hn HT
          generalize hz : zs[k] = z at hc0 hc1 h1
          clear hz
          go_wp2_with fail
          go_quiet (fail)
          go_wp2_with fail
          refine ⟨⟨k + 1, by omega, by go_num, .inr ⟨k, HI.out, rfl, HE.out _ rfl⟩, Below.drewN (HB.out.alloc HB.out.size _) _⟩, by simp [intOf]; omega⟩
        · have HT := hide ((best_keep hlt (fun h => h1 h.1)).trans hn)
          have hd : decide (zs[k].2 ≤ at_) = false := by simp; omega
          clear hr hb hbw hc hn
          generalize zs[k] = z at *
          go_wp2_with fail
          go_quiet (fail)
          go_wp2_with fail
          refine ⟨⟨k + 1, by omega, by go_num, .inl ⟨HT.out, rfl⟩, Below.drewN (HB.out.alloc HB.out.size _) _⟩, by simp [intOf]; omega⟩
      · obtain ⟨b', off', e', _, hd⟩ := (hr.below hbw).row landmarkC_len (by decide) hml
        simp only [Option.some.injEq, Addr.mk.injEq, and_true] at e'
        obtain ⟨rfl, rfl⟩ := e'
        have hd1 := hd 1 _ rfl
        have hneg : decide ((m : Int) < 0) = false := by simp
        by_cases h1 : zs[k].2 ≤ at_
        · by_cases h2 : zs[m].2 ≤ zs[k].2
          · have HT := hide (best_new hlt ⟨h1, fun y hy => by rw [hs] at hy; injection hy with hy; rw [← hy]; exact h2⟩)
            have HI := hide hlt
            have HE : Hid (∀ z, zs[k] = z → bestL (zs.take (k + 1)) at_ = some zs[k]) := fun _ _ => HT.out
            clear hr hb hbw hc hd hs HT
            generalize hz : zs[k] = z at hc0 hc1 h1 h2
            generalize hy : zs[m] = y at hd1 h2
            clear hz hy
            go_wp2_with fail
            go_quiet (fail)
            go_wp2_with fail
            refine ⟨⟨k + 1, by omega, by go_num, .inr ⟨k, HI.out, rfl, HE.out _ rfl⟩, Below.drewN (HB.out.alloc HB.out.size _) _⟩, by simp [intOf]; omega⟩
          · have HT := hide ((best_keep hlt (fun h => h2 (h.2 _ hs))).trans hs)
            have hd2 : decide (zs[m].2 ≤ zs[k].2) = false := by simp; omega
            have HE : Hid (∀ z, zs[m] = z → bestL (zs.take (k + 1)) at_ = some zs[m]) := fun _ _ => HT.out
            clear hr hb hbw hc hd hs HT
            generalize hz : zs[k] = z at hc0 hc1 h1 h2 hd2
            generalize hy : zs[m] = y at hd1 h2 hd2
            clear hz hy
            go_wp2_with fail
            go_quiet (fail)
            go_wp2_with fail
            refine ⟨⟨k + 1, by omega, by go_num, .inr ⟨m, hml, rfl, HE.out _ rfl⟩, Below.drewN (HB.out.alloc HB.out.size _) _⟩, by simp [intOf]; omega⟩
        · have HT := hide ((best_keep hlt (fun h => h1 h.1)).trans hs)
          have hd1' : decide (zs[k].2 ≤ at_) = false := by simp; omega
          have HE : Hid (∀ z, zs[m] = z → bestL (zs.take (k + 1)) at_ = some zs[m]) := fun _ _ => HT.out
          clear hr hb hbw hc hd hs hd1 HT
          generalize hz : zs[k] = z at hc0 hc1 h1 hd1'
          clear hz
          go_wp2_with fail
          go_quiet (fail)
          go_wp2_with fail
          refine ⟨⟨k + 1, by omega, by go_num, .inr ⟨m, hml, rfl, HE.out _ rfl⟩, Below.drewN (HB.out.alloc HB.out.size _) _⟩, by simp [intOf]; omega⟩
    · have e : zs.take k = zs := List.take_of_length_le (by omega)
      have q0 := (hb.cell (p := ⟨w.heap.size, 0, none⟩) (by rw [KZ.out]; exact Nat.lt_succ_self _)).trans K0.out
      have q1 := (hb.cell (p := ⟨w.heap.size, 1, none⟩) (by rw [KZ.out]; exact Nat.lt_succ_self _)).trans K1.out
      have qf := (hb.frozen (p := ⟨w.heap.size, 0, none⟩) (by rw [KZ.out]; exact Nat.lt_succ_self _)).trans (KF.out 0)
      have qf1 := (hb.frozen (p := ⟨w.heap.size, 1, none⟩) (by rw [KZ.out]; exact Nat.lt_succ_self _)).trans (KF.out 1)
      have HBW := hide hbw
      unfold Best at hbest
      rw [e] at hbest
      rcases hbest with ⟨hn, rfl⟩ | ⟨m, hml, rfl, hs⟩
      · have HR := hide (show res (bestL zs at_) = .tuple #[.agg #[.string ⟨#[]⟩, .int .i64 0], .bool false] by rw [hn]; rfl)
        clear hr hb hbw hn e
        go_wp2_with fail
        refine bodyPost_ret (v := .tuple #[.agg #[.string ⟨#[]⟩, .int .i64 0], .bool false]) (by simp [results, Tryd.results19, go_sem, q0, q1]) rfl ⟨by rw [HR.out], ?_⟩
        exact (HBW.out.setCell (Nat.le_refl _) _).setCell (Nat.le_refl _) _
      · obtain ⟨b, off, rfl, hbb, hc⟩ := (hr.below hbw).row landmarkC_len (by decide) hml
        have hc0 := hc 0 _ rfl
        have hc1 := hc 1 _ rfl
        simp only [Nat.add_zero] at hc0
        have HR := hide (show res (bestL zs at_) = .tuple #[.agg #[.string zs[m].1, .int .i64 zs[m].2], .bool true] by rw [hs]; rfl)
        clear hr hb hbw hs e hc
        generalize zs[m] = z at *
        go_wp2_with fail
        refine bodyPost_ret (v := .tuple #[.agg #[.string z.1, .int .i64 z.2], .bool true]) (by simp [results, Tryd.results19, go_sem, q0, q1]) rfl ⟨by rw [HR.out], ?_⟩
        exact (HBW.out.setCell (Nat.le_refl _) _).setCell (Nat.le_refl _) _
def boxL (b : Option D) : Array Value := match b with
  | none => #[.string ⟨#[]⟩, .int .i64 0]
  | some z => #[.string z.1, .int .i64 z.2]
theorem landmarkBeforeS_any (A : Option Addr) (zs : List D) (c : Nat) (at_ : Int) (w : World) (hr : Rd w w.heap.size A (cellsOf landmarkC zs)) (hm : zs.length ≤ maxLen) :
    Calls Tryd.prog 34 #[.slice A zs.length c, .int .i64 at_] w (Ret (res (bestL zs at_)) w) := by
  unfold maxLen at hm
  go_enter Tryd.func34, Tryd.ntmps34
  go_wp2
  have hx1 := (Box.new w 40 #[.string ⟨#[]⟩, .int .i64 0]).alloc (.cells #[.string ⟨#[]⟩, .int .i64 0] 40)
  have hx2 := Box.new (w.alloc (.cells #[.string ⟨#[]⟩, .int .i64 0] 40)) 40 #[.string ⟨#[]⟩, .int .i64 0]
  have hB0 : Below w.heap.size w ((w.alloc (.cells #[.string ⟨#[]⟩, .int .i64 0] 40)).alloc (.cells #[.string ⟨#[]⟩, .int .i64 0] 40)) := (by repeat (first | exact Below.refl _ _ | with_reducible assumption | (refine Below.drew ?_) | (refine Below.drewN ?_ _) | (refine Below.alloc ?_ (by simp; try omega) _) | (refine Below.setCell ?_ (by simp; try omega) _)))
  simp only [World.size_alloc] at hx2
  go_loopw [7, 8] (fun f i wr => ∃ k : Nat, k ≤ zs.length ∧ i = .int .i64 k ∧ f = .bool (bestL (zs.take k) at_).isSome ∧ Box wr w.heap.size 40 #[.string ⟨#[]⟩, .int .i64 0] ∧ Box wr (w.heap.size + 1) 40 (boxL (bestL (zs.take k) at_)) ∧ Below w.heap.size w wr) (fun _ i _ => zs.length - (intOf i).toNat)
  case atStart => exact ⟨0, Nat.zero_le _, rfl, rfl, hx1, hx2, hB0⟩
  case round =>
    obtain ⟨k, hk, rfl, rfl, h1, h2, hb⟩ := hrel
    clear hx1 hx2 hB0
    have H1 := hide h1
    have H2 := hide h2
    have HB := hide hb
    by_cases hlt : k < zs.length
    · obtain ⟨b, off, rfl, hbb, hc⟩ := (hr.below hb).row landmarkC_len (by decide) hlt
      have hc0 := hc 0 _ rfl
      have hc1 := hc 1 _ rfl
      simp only [Nat.add_zero] at hc0
      have f0 := h2.frozen 0
      have f1 := h2.frozen 1
      have q0 := h2.cell 0
      have q1 := h2.cell 1
      have HN := hide (fun h => best_new (at_ := at_) hlt h)
      have HK := hide (fun h => best_keep (at_ := at_) hlt h)
      cases hs : bestL (zs.take k) at_ with
      | none =>
        rw [hs] at HN HK q0 q1 H2
        simp only [boxL, List.getElem?_toArray, List.getElem?_cons_zero, List.getElem?_cons_succ] at q0 q1
        simp only [Option.isSome_none]
        by_cases g1 : zs[k].2 ≤ at_
        · have HT := hide (HN.out ⟨g1, fun y hy => by cases hy⟩)
          clear hr hb hc HN HK h1 h2 hs
          generalize zs[k] = z at *
          go_wp2_with fail
          go_quiet (fail)
          go_wp2_with fail
          refine ⟨⟨k + 1, by omega, by go_num, by rw [HT.out]; rfl, ((H1.out.drewN _).far (by simp) _).far (by simp) _, ?_, (Below.setCell (Below.setCell (Below.drewN HB.out _) (by simp) _) (by simp) _)⟩, by simp [intOf]; omega⟩
          rw [HT.out]
          exact ((H2.out.drewN _).set 0 _).set 1 _
        · have HT := hide (HK.out (fun h => g1 h.1))
          have hd : decide (zs[k].2 ≤ at_) = false := by simp; omega
          clear hr hb hc HN HK h1 h2 hs
          generalize zs[k] = z at *
          go_wp2_with fail
          go_quiet (fail)
          go_wp2_with fail
          refine ⟨⟨k + 1, by omega, by go_num, by rw [HT.out]; rfl, H1.out.drewN _, ?_, Below.drewN HB.out _⟩, by simp [intOf]; omega⟩
          rw [HT.out]
          exact H2.out.drewN _
      | some y =>
        rw [hs] at HN HK q0 q1 H2
        simp only [boxL, List.getElem?_toArray, List.getElem?_cons_zero, List.getElem?_cons_succ] at q0 q1
        simp only [Option.isSome_some]
        by_cases g1 : zs[k].2 ≤ at_
        · by_cases g2 : y.2 ≤ zs[k].2
          · have HT := hide (HN.out ⟨g1, fun y' hy => by injection hy with hy; rw [← hy]; exact g2⟩)
            clear hr hb hc HN HK h1 h2 hs
            generalize zs[k] = z at *
            go_wp2_with fail
            go_quiet (fail)
            go_wp2_with fail
            refine ⟨⟨k + 1, by omega, by go_num, by rw [HT.out]; rfl, ((H1.out.drewN _).far (by simp) _).far (by simp) _, ?_, (Below.setCell (Below.setCell (Below.drewN HB.out _) (by simp) _) (by simp) _)⟩, by simp [intOf]; omega⟩
            rw [HT.out]
            exact ((H2.out.drewN _).set 0 _).set 1 _
          · have HT := hide (HK.out (fun h => g2 (h.2 _ rfl)))
            have hd : decide (y.2 ≤ zs[k].2) = false := by simp; omega
            clear hr hb hc HN HK h1 h2 hs
            generalize zs[k] = z at *
            go_wp2_with fail
            go_quiet (fail)
            go_wp2_with fail
            refine ⟨⟨k + 1, by omega, by go_num, by rw [HT.out]; rfl, H1.out.drewN _, ?_, Below.drewN HB.out _⟩, by simp [intOf]; omega⟩
            rw [HT.out]
            exact H2.out.drewN _
        · have HT := hide (HK.out (fun h => g1 h.1))
          have hd : decide (zs[k].2 ≤ at_) = false := by simp; omega
          clear hr hb hc HN HK h1 h2 hs
          generalize zs[k] = z at *
          go_wp2_with fail
          go_quiet (fail)
          go_wp2_with fail
          refine ⟨⟨k + 1, by omega, by go_num, by rw [HT.out]; rfl, H1.out.drewN _, ?_, Below.drewN HB.out _⟩, by simp [intOf]; omega⟩
          rw [HT.out]
          exact H2.out.drewN _
    · have e : zs.take k = zs := List.take_of_length_le (by omega)
      rw [e] at h2 ⊢
      have f0 := h1.frozen 0
      have f1 := h1.frozen 1
      have p0 := h1.cell 0
      have p1 := h1.cell 1
      have q0 := h2.cell 0
      have q1 := h2.cell 1
      simp only [List.getElem?_toArray, List.getElem?_cons_zero, List.getElem?_cons_succ] at p0 p1
      cases hs : bestL zs at_ with
      | none =>
        rw [hs] at q0 q1
        simp only [boxL, List.getElem?_toArray, List.getElem?_cons_zero, List.getElem?_cons_succ] at q0 q1
        have HR := hide (show res (bestL zs at_) = .tuple #[.agg #[.string ⟨#[]⟩, .int .i64 0], .bool false] by rw [hs]; rfl)
        simp only [Option.isSome_none]
        clear hr hb h1 h2 hs e
        go_wp2_with fail
        refine bodyPost_ret (v := .tuple #[.agg #[.string ⟨#[]⟩, .int .i64 0], .bool false]) (by simp [results, Tryd.results34, go_sem, p0, p1]) rfl ⟨by rw [← HR.out], ?_⟩
        exact (HB.out.setCell (Nat.le_refl _) _).setCell (Nat.le_refl _) _
      | some z =>
        rw [hs] at q0 q1
        simp only [boxL, List.getElem?_toArray, List.getElem?_cons_zero, List.getElem?_cons_succ] at q0 q1
        have HR := hide (show res (bestL zs at_) = .tuple #[.agg #[.string z.1, .int .i64 z.2], .bool true] by rw [hs]; rfl)
        simp only [Option.isSome_some]
        clear hr hb h1 h2 hs e
        go_wp2_with fail
        refine bodyPost_ret (v := .tuple #[.agg #[.string z.1, .int .i64 z.2], .bool true]) (by simp [results, Tryd.results34, go_sem, p0, p1]) rfl ⟨by rw [← HR.out], ?_⟩
        exact (HB.out.setCell (Nat.le_refl _) _).setCell (Nat.le_refl _) _
end Go.Proofs.YtjnnjgogpapbhaaDoor.CLandmarkBefore
