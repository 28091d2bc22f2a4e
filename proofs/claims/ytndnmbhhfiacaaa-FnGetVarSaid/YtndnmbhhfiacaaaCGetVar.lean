/- Contracts of GetVar, the program's and the reference's. -/
import Derived.Test.YtndnmbhhfiacaaaCPutVar
import Derived.Test.YtndnmbhhfiacaaaCEqual
import Derived.Deep.QuietTactic
import Derived.BigQuiet
import Derived.StillTailTactics
import Derived.Deep.RegionWith
import Derived.Deep.RegionHeld3
namespace Go.Proofs.Ytndnmbhhfiacaaa.CGetVar
set_option maxRecDepth 200000
open Go.ChangeShapes Go.WideShapes Go.ChangeAt Go.RowKit Kit CCode PVar CPutVar
set_option maxHeartbeats 4000000 in
theorem getVar_any (A : Option Addr) (zs : List Int) (c : Nat) (at_ : Int) (w : World) (hr : Rd w w.heap.size A (ints .u8 zs)) (hz : InR 0 255 zs) (hm : zs.length ≤ 1048576) (hc : zs.length ≤ c)
    (lo : -9223372036854775808 ≤ at_) (hi : at_ ≤ 9223372036854775807) :
    Calls Try.prog 51 #[.slice A zs.length c, .int .i64 at_] w (Ret (.tuple #[.int .i64 (getV zs at_).1, .int .i64 (getV zs at_).2]) w) := by
  by_cases h : 0 ≤ at_ ∧ at_ ≤ (zs.length : Int) - 1
  · have hb := inB_t h
    obtain ⟨a, rfl⟩ := Int.eq_ofNat_of_zero_le h.1
    have ha : a < zs.length := by omega
    clear h lo hi
    go_enter Try.func51, Try.ntmps51
    go_wp2_with (first | (go_at_call 109; refine (within_any _ _ _ _).mono ?_; rintro e w' ⟨rfl, rfl⟩) | (go_at_call 128; refine (hasArg_any _ _).mono ?_; rintro e w' ⟨rfl, rfl⟩) | (go_at_call 110; refine (l1In_any _ _ _ _).mono ?_; rintro e w' ⟨rfl, rfl⟩) | (go_at_call 129; refine (l29Has_any _ _).mono ?_; rintro e w' ⟨rfl, rfl⟩) | fail)
    all_goals
      clear hb
      have HRD := hide hr
      have HRZ := hide hz
      go_loopw [6, 21] (fun n i wr => ∃ k : Nat, k ≤ 4 ∧ a + k ≤ zs.length ∧ i = .int .i64 k ∧ n = .int .i64 (dec ((zs.drop a).take k)) ∧ (∀ z ∈ (zs.drop a).take k, 128 ≤ z ∧ z ≤ 255) ∧ gvF k (dec ((zs.drop a).take k)) ((zs.drop a).drop k) = gvF 0 0 (zs.drop a) ∧ Below w.heap.size w wr) (fun _ i _ => 4 - (intOf i).toNat)
      case atStart => exact ⟨0, by omega, by omega, rfl, rfl, by simp, rfl, Below.refl _ _⟩
      case round =>
        obtain ⟨k, hk4, hkl, rfl, rfl, hall, hgv, hb⟩ := hrel
        have HB := hide hb
        by_cases hlt : k < 4 ∧ a + k < zs.length
        · obtain ⟨b, off, rfl, _, hc0⟩ := (hr.below hb).int hlt.2
          obtain ⟨x0, x1⟩ := hz.at_ hlt.2
          obtain ⟨ht, hds, hdl, hd, hlen⟩ := gv_step hlt.2
          rw [hd] at hgv
          have HT := hide ht
          have HALL := hide hall
          have HDS := hide hds
          have HGV := hide hgv
          have HL := hide hlen
          clear hd ht hds hgv hall hb hlen
          by_cases hx : zs[a + k] < 128
          · have HG := hide ((gv_hit hlt.1 hx).symm.trans HGV.out)
            have HP := hide ((putVar_test _ zs[a + k] HALL.out x0 (by omega)))
            rw [HL.out, ← HT.out] at HP
            rw [← HDS.out] at HG
            have HRB := hide (hr.slice a (k + 1) (by omega))
            have HZP : ∀ k, InR 0 255 ((zs.drop a).take (k + 1)) := fun k z hz' => hz z (List.mem_of_mem_drop (List.mem_of_mem_take hz'))
            obtain ⟨hk1, hk2⟩ := hlt
            have hb127 := and127u8 zs[a + k] x0 x1
            generalize hX : zs[a + k] = x at *
            have HX := hide hX
            generalize hD : dec ((zs.drop a).take k) = d at *
            have HD := hide hD
            have HRZP := hide (HZP k)
            clear HZP
            generalize hP : (zs.drop a).take (k + 1) = P at *
            have HPP := hide hP
            clear hP
            generalize hN : dec P = N at *
            have HN := hide hN
            have hds := HDS.out
            clear hX hD hN hr hz HGV HALL HT HDS
            obtain rfl | rfl | rfl | rfl : k = 0 ∨ k = 1 ∨ k = 2 ∨ k = 3 := by omega
            · have hNb : N ≤ 268435455 := by simp only [Nat.reducePow] at *; omega
              have hor : bits .or .i64 (d : Int) (x % 128) = (N : Int) := by
                rw [hds]; exact or_low d (x.toNat % 128) 0 hdl (by simp only [Nat.reducePow] at *; omega) _ (by omega)
              clear hds hdl
              simp only [Nat.add_zero] at hc0
              have f1 : IntKind.i64.wrap ((a : Int)) = (a : Int) := IntWalk.i64_in _ (by omega)
              have f2 : IntKind.i64.wrap ((a : Int) + 1) = (a : Int) + 1 := IntWalk.i64_in _ (by omega)
              have g1 : ((a : Int) + 1).toNat = a + 1 := by omega
              have g2 : (a : Int) + 1 ≤ (c : Int) := by omega
              have g3 : 0 ≤ (a : Int) + 1 := by omega
              have g4 : (a : Int) ≤ (a : Int) + 1 := by omega
              go_wp2_with fail
              clear hc0
              go_region_held3 (fun _ => True) (first | trivial) (first | (go_at_call 48; refine (putVar_yes N hNb _).mono ?_; rintro e w2 ⟨A1, c1, rfl, ho, hb2⟩; have HR1 := hide (Rd.of_own ho); have HB2 := hide (below_drawn hb2); clear ho hb2) | (go_at_call 119; refine (CEqual.equal_n _ _ (varN N) P _ _ _ _ _ _ _ rfl (by have := HRB.out.2; omega) HR1.out ((HRB.out.1.below (HB.out.trans (HB2.out.mono HB.out.size)))) (varN_bd N).2 HRZP.out).mono ?_; rintro e w3 ⟨rfl, rfl⟩))
              have HBB := hide (HB.out.trans (HB2.out.mono HB.out.size))
              clear HR1 HB2
              by_cases hlast : x = 0 ∧ 0 < 0
              · have hE : decide (varN N = P) = false := decide_eq_false fun e => (HP.out.1 e) hlast
                have HE := hide (show getV zs a = (-1, (a : Int)) by
                  have h := HG.out
                  rw [if_pos hlast] at h
                  unfold getV
                  rw [if_pos ⟨by omega, by omega⟩, Int.toNat_natCast, ← h])
                clear hlast f1 f2
                simp only [hE, Bool.not_true, Bool.not_false]
                go_wp2_with fail
                go_ret2
                exact ⟨by rw [HE.out]; rfl, HBB.out⟩
              · have hE : decide (varN N = P) = true := decide_eq_true (HP.out.2 hlast)
                have HE := hide (show getV zs a = ((N : Int), (a : Int) + 1) by
                  have h := HG.out
                  rw [if_neg hlast] at h
                  unfold getV
                  rw [if_pos ⟨by omega, by omega⟩, Int.toNat_natCast, ← h]
                  first | rfl | (simp only [Prod.mk.injEq, true_and]; omega))
                clear hlast f1 f2
                simp only [hE, Bool.not_true, Bool.not_false]
                go_wp2_with fail
                go_ret2
                exact ⟨by rw [HE.out]; rfl, HBB.out⟩
            · have hNb : N ≤ 268435455 := by simp only [Nat.reducePow] at *; omega
              have hor : bits .or .i64 (d : Int) (x % 128 * 128) = (N : Int) := by
                rw [hds]; exact or_low d (x.toNat % 128) 7 hdl (by simp only [Nat.reducePow] at *; omega) _ (by omega)
              clear hds hdl
              skip
              have f1 : IntKind.i64.wrap ((a : Int) + 1) = (a : Int) + 1 := IntWalk.i64_in _ (by omega)
              have f2 : IntKind.i64.wrap ((a : Int) + 1 + 1) = (a : Int) + 1 + 1 := IntWalk.i64_in _ (by omega)
              have g1 : ((a : Int) + 1 + 1).toNat = a + 1 + 1 := by omega
              have g2 : (a : Int) + 1 + 1 ≤ (c : Int) := by omega
              have g3 : 0 ≤ (a : Int) + 1 + 1 := by omega
              have g4 : (a : Int) ≤ (a : Int) + 1 + 1 := by omega
              go_wp2_with fail
              clear hc0
              go_region_held3 (fun _ => True) (first | trivial) (first | (go_at_call 48; refine (putVar_yes N hNb _).mono ?_; rintro e w2 ⟨A1, c1, rfl, ho, hb2⟩; have HR1 := hide (Rd.of_own ho); have HB2 := hide (below_drawn hb2); clear ho hb2) | (go_at_call 119; refine (CEqual.equal_n _ _ (varN N) P _ _ _ _ _ _ _ rfl (by have := HRB.out.2; omega) HR1.out ((HRB.out.1.below (HB.out.trans (HB2.out.mono HB.out.size)))) (varN_bd N).2 HRZP.out).mono ?_; rintro e w3 ⟨rfl, rfl⟩))
              have HBB := hide (HB.out.trans (HB2.out.mono HB.out.size))
              clear HR1 HB2
              by_cases hlast : x = 0 ∧ 0 < 1
              · have hE : decide (varN N = P) = false := decide_eq_false fun e => (HP.out.1 e) hlast
                have HE := hide (show getV zs a = (-1, (a : Int)) by
                  have h := HG.out
                  rw [if_pos hlast] at h
                  unfold getV
                  rw [if_pos ⟨by omega, by omega⟩, Int.toNat_natCast, ← h])
                clear hlast f1 f2
                simp only [hE, Bool.not_true, Bool.not_false]
                go_wp2_with fail
                go_ret2
                exact ⟨by rw [HE.out]; rfl, HBB.out⟩
              · have hE : decide (varN N = P) = true := decide_eq_true (HP.out.2 hlast)
                have HE := hide (show getV zs a = ((N : Int), (a : Int) + 1 + 1) by
                  have h := HG.out
                  rw [if_neg hlast] at h
                  unfold getV
                  rw [if_pos ⟨by omega, by omega⟩, Int.toNat_natCast, ← h]
                  first | rfl | (simp only [Prod.mk.injEq, true_and]; omega))
                clear hlast f1 f2
                simp only [hE, Bool.not_true, Bool.not_false]
                go_wp2_with fail
                go_ret2
                exact ⟨by rw [HE.out]; rfl, HBB.out⟩
            · have hNb : N ≤ 268435455 := by simp only [Nat.reducePow] at *; omega
              have hor : bits .or .i64 (d : Int) (x % 128 * 16384) = (N : Int) := by
                rw [hds]; exact or_low d (x.toNat % 128) 14 hdl (by simp only [Nat.reducePow] at *; omega) _ (by omega)
              clear hds hdl
              skip
              have f1 : IntKind.i64.wrap ((a : Int) + 2) = (a : Int) + 2 := IntWalk.i64_in _ (by omega)
              have f2 : IntKind.i64.wrap ((a : Int) + 2 + 1) = (a : Int) + 2 + 1 := IntWalk.i64_in _ (by omega)
              have g1 : ((a : Int) + 2 + 1).toNat = a + 2 + 1 := by omega
              have g2 : (a : Int) + 2 + 1 ≤ (c : Int) := by omega
              have g3 : 0 ≤ (a : Int) + 2 + 1 := by omega
              have g4 : (a : Int) ≤ (a : Int) + 2 + 1 := by omega
              go_wp2_with fail
              clear hc0
              go_region_held3 (fun _ => True) (first | trivial) (first | (go_at_call 48; refine (putVar_yes N hNb _).mono ?_; rintro e w2 ⟨A1, c1, rfl, ho, hb2⟩; have HR1 := hide (Rd.of_own ho); have HB2 := hide (below_drawn hb2); clear ho hb2) | (go_at_call 119; refine (CEqual.equal_n _ _ (varN N) P _ _ _ _ _ _ _ rfl (by have := HRB.out.2; omega) HR1.out ((HRB.out.1.below (HB.out.trans (HB2.out.mono HB.out.size)))) (varN_bd N).2 HRZP.out).mono ?_; rintro e w3 ⟨rfl, rfl⟩))
              have HBB := hide (HB.out.trans (HB2.out.mono HB.out.size))
              clear HR1 HB2
              by_cases hlast : x = 0 ∧ 0 < 2
              · have hE : decide (varN N = P) = false := decide_eq_false fun e => (HP.out.1 e) hlast
                have HE := hide (show getV zs a = (-1, (a : Int)) by
                  have h := HG.out
                  rw [if_pos hlast] at h
                  unfold getV
                  rw [if_pos ⟨by omega, by omega⟩, Int.toNat_natCast, ← h])
                clear hlast f1 f2
                simp only [hE, Bool.not_true, Bool.not_false]
                go_wp2_with fail
                go_ret2
                exact ⟨by rw [HE.out]; rfl, HBB.out⟩
              · have hE : decide (varN N = P) = true := decide_eq_true (HP.out.2 hlast)
                have HE := hide (show getV zs a = ((N : Int), (a : Int) + 2 + 1) by
                  have h := HG.out
                  rw [if_neg hlast] at h
                  unfold getV
                  rw [if_pos ⟨by omega, by omega⟩, Int.toNat_natCast, ← h]
                  first | rfl | (simp only [Prod.mk.injEq, true_and]; omega))
                clear hlast f1 f2
                simp only [hE, Bool.not_true, Bool.not_false]
                go_wp2_with fail
                go_ret2
                exact ⟨by rw [HE.out]; rfl, HBB.out⟩
            · have hNb : N ≤ 268435455 := by simp only [Nat.reducePow] at *; omega
              have hor : bits .or .i64 (d : Int) (x % 128 * 2097152) = (N : Int) := by
                rw [hds]; exact or_low d (x.toNat % 128) 21 hdl (by simp only [Nat.reducePow] at *; omega) _ (by omega)
              clear hds hdl
              skip
              have f1 : IntKind.i64.wrap ((a : Int) + 3) = (a : Int) + 3 := IntWalk.i64_in _ (by omega)
              have f2 : IntKind.i64.wrap ((a : Int) + 3 + 1) = (a : Int) + 3 + 1 := IntWalk.i64_in _ (by omega)
              have g1 : ((a : Int) + 3 + 1).toNat = a + 3 + 1 := by omega
              have g2 : (a : Int) + 3 + 1 ≤ (c : Int) := by omega
              have g3 : 0 ≤ (a : Int) + 3 + 1 := by omega
              have g4 : (a : Int) ≤ (a : Int) + 3 + 1 := by omega
              go_wp2_with fail
              clear hc0
              go_region_held3 (fun _ => True) (first | trivial) (first | (go_at_call 48; refine (putVar_yes N hNb _).mono ?_; rintro e w2 ⟨A1, c1, rfl, ho, hb2⟩; have HR1 := hide (Rd.of_own ho); have HB2 := hide (below_drawn hb2); clear ho hb2) | (go_at_call 119; refine (CEqual.equal_n _ _ (varN N) P _ _ _ _ _ _ _ rfl (by have := HRB.out.2; omega) HR1.out ((HRB.out.1.below (HB.out.trans (HB2.out.mono HB.out.size)))) (varN_bd N).2 HRZP.out).mono ?_; rintro e w3 ⟨rfl, rfl⟩))
              have HBB := hide (HB.out.trans (HB2.out.mono HB.out.size))
              clear HR1 HB2
              by_cases hlast : x = 0 ∧ 0 < 3
              · have hE : decide (varN N = P) = false := decide_eq_false fun e => (HP.out.1 e) hlast
                have HE := hide (show getV zs a = (-1, (a : Int)) by
                  have h := HG.out
                  rw [if_pos hlast] at h
                  unfold getV
                  rw [if_pos ⟨by omega, by omega⟩, Int.toNat_natCast, ← h])
                clear hlast f1 f2
                simp only [hE, Bool.not_true, Bool.not_false]
                go_wp2_with fail
                go_ret2
                exact ⟨by rw [HE.out]; rfl, HBB.out⟩
              · have hE : decide (varN N = P) = true := decide_eq_true (HP.out.2 hlast)
                have HE := hide (show getV zs a = ((N : Int), (a : Int) + 3 + 1) by
                  have h := HG.out
                  rw [if_neg hlast] at h
                  unfold getV
                  rw [if_pos ⟨by omega, by omega⟩, Int.toNat_natCast, ← h]
                  first | rfl | (simp only [Prod.mk.injEq, true_and]; omega))
                clear hlast f1 f2
                simp only [hE, Bool.not_true, Bool.not_false]
                go_wp2_with fail
                go_ret2
                exact ⟨by rw [HE.out]; rfl, HBB.out⟩
          · have HG := hide ((gv_go hlt.1 hx).symm.trans HGV.out)
            have HA : Hid (∀ z ∈ (zs.drop a).take (k + 1), 128 ≤ z ∧ z ≤ 255) := by
              intro z hz
              rw [HT.out, List.mem_append] at hz
              rcases hz with hz | hz
              · exact HALL.out z hz
              · simp at hz
                rw [hz]
                omega
            rw [← HDS.out] at HG
            obtain ⟨hk1, hk2⟩ := hlt
            clear HGV HALL HT
            generalize hX : zs[a + k] = x at *
            have HX := hide hX
            generalize hD : dec ((zs.drop a).take k) = d at *
            have HD := hide hD
            clear hX hD hr hz
            have hb127 := and127u8 x x0 x1
            generalize hN : dec ((zs.drop a).take (k + 1)) = N at *
            have HN := hide hN
            have hds := HDS.out
            clear hN HDS
            obtain rfl | rfl | rfl | rfl : k = 0 ∨ k = 1 ∨ k = 2 ∨ k = 3 := by omega
            · have hor : bits .or .i64 (d : Int) (x % 128) = (N : Int) := by
                rw [hds]; exact or_low d (x.toNat % 128) 0 hdl (by simp only [Nat.reducePow] at *; omega) _ (by omega)
              simp only [Nat.add_zero] at hc0
              clear hds hdl
              go_wp2_with fail
              refine ⟨⟨1, by omega, by omega, rfl, by rw [HN.out], HA, by rw [HN.out]; exact HG.out, HB.out⟩, by simp [intOf]⟩
            · have hor : bits .or .i64 (d : Int) (x % 128 * 128) = (N : Int) := by
                rw [hds]; exact or_low d (x.toNat % 128) 7 hdl (by simp only [Nat.reducePow] at *; omega) _ (by omega)
              clear hds hdl
              go_wp2_with fail
              refine ⟨⟨2, by omega, by omega, rfl, by rw [HN.out], HA, by rw [HN.out]; exact HG.out, HB.out⟩, by simp [intOf]⟩
            · have hor : bits .or .i64 (d : Int) (x % 128 * 16384) = (N : Int) := by
                rw [hds]; exact or_low d (x.toNat % 128) 14 hdl (by simp only [Nat.reducePow] at *; omega) _ (by omega)
              clear hds hdl
              go_wp2_with fail
              refine ⟨⟨3, by omega, by omega, rfl, by rw [HN.out], HA, by rw [HN.out]; exact HG.out, HB.out⟩, by simp [intOf]⟩
            · have hor : bits .or .i64 (d : Int) (x % 128 * 2097152) = (N : Int) := by
                rw [hds]; exact or_low d (x.toNat % 128) 21 hdl (by simp only [Nat.reducePow] at *; omega) _ (by omega)
              clear hds hdl
              go_wp2_with fail
              refine ⟨⟨4, by omega, by omega, rfl, by rw [HN.out], HA, by rw [HN.out]; exact HG.out, HB.out⟩, by simp [intOf]⟩
        · have hend : gvF 0 0 (zs.drop a) = none := by
            rw [← hgv]
            refine gv_end ?_
            by_cases h4 : 4 ≤ k
            · exact .inl h4
            · right
              rw [List.drop_drop]
              exact List.drop_of_length_le (by omega)
          have HE := hide (show getV zs a = (-1, (a : Int)) by
            unfold getV
            rw [if_pos ⟨by omega, by omega⟩, Int.toNat_natCast, hend])
          have hlt' : ¬ (k < 4 ∧ (k : Int) < zs.length - a) := by omega
          clear hr hz hgv hall hb hend
          by_cases hk4' : k = 4
          · subst hk4'
            go_wp2_with fail
            all_goals go_ret2
            all_goals exact ⟨by rw [HE.out]; rfl, HB.out⟩
          · have hk5 : k < 4 := by omega
            go_wp2_with fail
            all_goals go_ret2
            all_goals exact ⟨by rw [HE.out]; rfl, HB.out⟩
  · have hb := inB_f h
    have HG := hide (show getV zs at_ = (-1, at_) by unfold getV; rw [if_neg (by omega)])
    clear h
    go_enter Try.func51, Try.ntmps51
    go_wp2_with (first | (go_at_call 109; refine (within_any _ _ _ _).mono ?_; rintro e w' ⟨rfl, rfl⟩) | (go_at_call 128; refine (hasArg_any _ _).mono ?_; rintro e w' ⟨rfl, rfl⟩) | (go_at_call 110; refine (l1In_any _ _ _ _).mono ?_; rintro e w' ⟨rfl, rfl⟩) | (go_at_call 129; refine (l29Has_any _ _).mono ?_; rintro e w' ⟨rfl, rfl⟩) | fail)
    go_ret2
    exact ⟨by rw [HG.out]; rfl, Below.refl _ _⟩
theorem tup2 {a b c d : Int} (h1 : a = c) (h2 : b = d) : Ending.returned (.tuple #[.int .i64 a, .int .i64 b]) = .returned (.tuple #[.int .i64 c, .int .i64 d]) := by rw [h1, h2]
def pw : Nat → Int
  | 0 => 1
  | 1 => 128
  | 2 => 16384
  | 3 => 2097152
  | _ => 268435456
theorem pw_bd {k : Nat} (h : k < 4) : 0 ≤ pw k ∧ pw k ≤ 2097152 ∧ pw k = ((128 ^ k : Nat) : Int) := by
  obtain rfl | rfl | rfl | rfl : k = 0 ∨ k = 1 ∨ k = 2 ∨ k = 3 := by omega
  all_goals simp [pw]
theorem pw_succ {k : Nat} (h : k < 4) : pw (k + 1) = 128 * pw k := by
  obtain rfl | rfl | rfl | rfl : k = 0 ∨ k = 1 ∨ k = 2 ∨ k = 3 := by omega
  all_goals simp [pw]
theorem hall_more {pre pre' : List Int} {x : Int} (h : ∀ z ∈ pre, 128 ≤ z ∧ z ≤ 255) (e : pre' = pre ++ [x]) (_ : True) (h1 : 128 ≤ x) (h2 : x ≤ 255) : ∀ z ∈ pre', 128 ≤ z ∧ z ≤ 255 := by
  intro z hz
  rw [e, List.mem_append] at hz
  rcases hz with hz | hz
  · exact h z hz
  · simp at hz
    rw [hz]
    exact ⟨h1, h2⟩
set_option maxHeartbeats 4000000 in
theorem getVarS_any (A : Option Addr) (zs : List Int) (c : Nat) (at_ : Int) (w : World) (hr : Rd w w.heap.size A (ints .u8 zs)) (hz : InR 0 255 zs) (hm : zs.length ≤ 1048576)
    (lo : -9223372036854775808 ≤ at_) (hi : at_ ≤ 9223372036854775807) :
    Calls Try.prog 61 #[.slice A zs.length c, .int .i64 at_] w (Ret (.tuple #[.int .i64 (getV zs at_).1, .int .i64 (getV zs at_).2]) w) := by
  by_cases h : 0 ≤ at_ ∧ at_ < (zs.length : Int)
  · obtain ⟨a, rfl⟩ := Int.eq_ofNat_of_zero_le h.1
    have ha : a < zs.length := by omega
    clear h lo hi
    go_enter Try.func61, Try.ntmps61
    go_wp2_with fail
    go_loopw [6, 7, 8] (fun n p i wr => ∃ k : Nat, k ≤ 4 ∧ a + k ≤ zs.length ∧ i = .int .i64 (a + k) ∧ n = .int .i64 (dec ((zs.drop a).take k)) ∧ p = .int .i64 (pw k) ∧ (∀ z ∈ (zs.drop a).take k, 128 ≤ z ∧ z ≤ 255) ∧ gvF k (dec ((zs.drop a).take k)) ((zs.drop a).drop k) = gvF 0 0 (zs.drop a) ∧ Below w.heap.size w wr) (fun _ _ i _ => a + 4 - (intOf i).toNat)
    case atStart => exact ⟨0, by omega, by omega, by simp, rfl, rfl, by simp, rfl, Below.refl _ _⟩
    case round =>
      obtain ⟨k, hk4, hkl, rfl, rfl, rfl, hall, hgv, hb⟩ := hrel
      have HB := hide hb
      by_cases hlt : k < 4 ∧ a + k < zs.length
      · obtain ⟨b, off, rfl, _, hc0⟩ := (hr.below hb).int hlt.2
        obtain ⟨x0, x1⟩ := hz.at_ hlt.2
        obtain ⟨ht, hds, hdl, hd, hlen⟩ := gv_step hlt.2
        rw [hd] at hgv
        have HT := hide ht
        have HALL := hide hall
        have HDS := hide hds
        have HGV := hide hgv
        clear hd ht hgv hall hb hlen hr hz
        generalize hX : zs[a + k] = x at *
        have HX := hide hX
        generalize hD : dec ((zs.drop a).take k) = d at *
        have HD := hide hD
        generalize hN : dec ((zs.drop a).take (k + 1)) = N at *
        have HN := hide hN
        obtain ⟨hk1, hk2⟩ := hlt
        clear hX hD hN
        obtain ⟨q0, q1, hq⟩ := pw_bd hk1
        have hsum : (d : Int) + pw k * (x % 128) = (N : Int) := by
          rw [hds, hq]
          push_cast
          congr 2
          omega
        have hm0 : 0 ≤ pw k * (x % 128) := Int.mul_nonneg (by omega) (by omega)
        have hm1 : pw k * (x % 128) ≤ 2097152 * 127 := Int.mul_le_mul q1 (by omega) (by omega) (by omega)
        have hdb : (d : Int) < 2097152 := by
          have : d < 128 ^ 3 := Nat.lt_of_lt_of_le hdl (Nat.pow_le_pow_right (by omega) (by omega))
          omega
        have HW1 := hide (pw_succ hk1)
        clear hdl hds hq
        generalize pw k = q at *
        have hd0 : 0 ≤ (d : Int) := by omega
        have HDD := hide (show dec ((zs.drop a).take k) = d from HD.out)
        clear HD
        obtain ⟨dd, hdd⟩ : ∃ dd : Int, dd = (d : Int) := ⟨_, rfl⟩
        rw [← hdd] at hsum hdb hd0 ⊢
        have HDI := hide hdd
        clear hdd
        by_cases hx : x < 128
        · by_cases hlast : x = 0 ∧ 0 < k
          · have HE := hide (show getV zs a = (-1, (a : Int)) by
              have h := HGV.out
              rw [gv_hit (by omega) hx, if_pos hlast] at h
              unfold getV
              rw [if_pos ⟨by omega, by omega⟩, Int.toNat_natCast, ← h])
            obtain ⟨rfl, hlast⟩ := hlast
            clear hsum hm0 hm1 HX
            go_wp2_with fail
            all_goals go_ret2
            all_goals exact ⟨by rw [HE.out]; rfl, HB.out⟩
          · have HE := hide (show getV zs a = ((N : Int), (a : Int) + (k + 1)) by
              have h := HGV.out
              rw [gv_hit (by omega) hx, if_neg hlast, ← HDS.out] at h
              unfold getV
              rw [if_pos ⟨by omega, by omega⟩, Int.toNat_natCast, ← h]
              rfl)
            by_cases hx0 : x = 0
            · have hk0 : k = 0 := by omega
              subst hx0 hk0
              simp only [Nat.add_zero] at hc0
              have hN0 : (N : Int) = dd := by omega
              have HN0 := hide hN0
              clear hsum hm0 hm1 HX hlast hN0
              go_wp2_with fail
              all_goals go_ret2
              all_goals exact ⟨by rw [HE.out, HN0.out]; first | rfl | exact tup2 (by omega) (by omega), HB.out⟩
            · have hx0' : (x == 0) = false := by simp; omega
              clear hlast hx0
              go_wp2_with fail
              all_goals go_ret2
              all_goals exact ⟨by rw [HE.out]; first | rfl | exact tup2 (by omega) (by omega), HB.out⟩
        · have HG := hide ((gv_go hk1 hx).symm.trans HGV.out)
          rw [← HDS.out] at HG
          have HA := hide (hall_more HALL.out HT.out trivial (by omega) x1)
          go_wp2_with fail
          refine ⟨⟨k + 1, by omega, by omega, by go_num, by rw [HN.out], by rw [HW1.out], HA.out, by rw [HN.out]; exact HG.out, HB.out⟩, by simp [intOf]; omega⟩
      · have hend : gvF 0 0 (zs.drop a) = none := by
          rw [← hgv]
          refine gv_end ?_
          by_cases h4 : 4 ≤ k
          · exact .inl h4
          · right
            rw [List.drop_drop]
            exact List.drop_of_length_le (by omega)
        have HE := hide (show getV zs a = (-1, (a : Int)) by
          unfold getV
          rw [if_pos ⟨by omega, by omega⟩, Int.toNat_natCast, hend])
        clear hr hz hgv hall hb hend
        by_cases hl : a + k < zs.length
        · have hk4' : k = 4 := by omega
          subst hk4'
          go_wp2_with fail
          all_goals go_ret2
          all_goals exact ⟨by rw [HE.out]; first | rfl | exact tup2 (by omega) (by omega), HB.out⟩
        · go_wp2_with fail
          all_goals go_ret2
          all_goals exact ⟨by rw [HE.out]; first | rfl | exact tup2 (by omega) (by omega), HB.out⟩
  · have HG := hide (show getV zs at_ = (-1, at_) by unfold getV; rw [if_neg (by omega)])
    by_cases h0 : 0 ≤ at_
    · have h1 : (zs.length : Int) ≤ at_ := by omega
      have hd : decide (at_ < (zs.length : Int)) = false := by simp; omega
      clear h
      go_enter Try.func61, Try.ntmps61
      go_wp2_with fail
      refine wp_loop_once ?_
      go_wp2_with fail
      go_ret2
      exact ⟨by rw [HG.out]; rfl, Below.refl _ _⟩
    · have hd : decide (0 ≤ at_) = false := by simp; omega
      clear h
      go_enter Try.func61, Try.ntmps61
      go_wp2_with fail
      refine wp_loop_once ?_
      go_wp2_with fail
      go_ret2
      exact ⟨by rw [HG.out]; rfl, Below.refl _ _⟩
end Go.Proofs.Ytndnmbhhfiacaaa.CGetVar
