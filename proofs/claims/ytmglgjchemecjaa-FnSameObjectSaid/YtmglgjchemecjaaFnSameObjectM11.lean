/- The laws' comparisons of sections and objects, equal or not. -/
import Derived.Test.YtmglgjchemecjaaFnSameObjectM10
import Derived.Test.YtmglgjchemecjaaRows
import Derived.Deep.QuietTactic
import Derived.BigQuiet
import Derived.StillTailTactics
import Derived.Deep.RegionHeld3
set_option linter.unusedSimpArgs false
set_option linter.unusedVariables false
namespace Go.Proofs.Ytmglgjchemecjaa.CSameG
set_option maxRecDepth 200000
open Go.ChangeShapes Go.WideShapes Go.ChangeAt Go.RowKit Kit CFixups CSymbols PObj BObj CSame CGlobalOf
def Lim (o : OV) : Prop := o.ps.length ≤ 1000 ∧ o.ys.length ≤ 1000 ∧ ∀ p ∈ o.ps, p.zs.length ≤ 1000 ∧ p.fs.length ≤ 1000
theorem sd_iff (a b : SD) : (a.nm = b.nm ∧ a.kd = b.kd ∧ a.al = b.al ∧ a.zs = b.zs ∧ a.sz = b.sz ∧ a.fs = b.fs) ↔ a = b := by
  obtain ⟨a1, a2, a3, a4, a5, a6⟩ := a
  obtain ⟨b1, b2, b3, b4, b5, b6⟩ := b
  simp only [SD.mk.injEq]
theorem od_iff (a b : OD) : (a.ss = b.ss ∧ a.ys = b.ys) ↔ a = b := by
  obtain ⟨a1, a2⟩ := a
  obtain ⟨b1, b2⟩ := b
  simp only [OD.mk.injEq]
instance decSD : DecidableEq SD := fun a b => decidable_of_iff _ (sd_iff a b)
instance decOD : DecidableEq OD := fun a b => decidable_of_iff _ (od_iff a b)
theorem take_eq_succ {α : Type} {xs ys : List α} {k : Nat} (h : xs.take k = ys.take k) (h1 : k < xs.length) (h2 : k < ys.length) (he : xs[k] = ys[k]) : xs.take (k + 1) = ys.take (k + 1) := by
  rw [take_succ h1, take_succ h2, h, he]
set_option maxHeartbeats 4000000 in
theorem sameSectionG_any (n1 n2 : ByteArray) (k1 k2 a1 a2 : Int) (A1 A2 : Option Addr) (c1 c2 : Nat) (z1 z2 : List Int) (s1 s2 : Int) (F1 F2 : Option Addr) (e1 e2 : Nat) (f1 f2 : List FD) (w : World)
    (hA1 : Rd w w.heap.size A1 (ints .u8 z1)) (hA2 : Rd w w.heap.size A2 (ints .u8 z2)) (hF1 : Rd w w.heap.size F1 (cellsOf fixupC f1)) (hF2 : Rd w w.heap.size F2 (cellsOf fixupC f2)) (hm1 : z1.length ≤ 1000) (hm2 : z2.length ≤ 1000) (hm3 : f1.length ≤ 1000) (hm4 : f2.length ≤ 1000) :
    Calls Try.prog 73 #[.agg #[.string n1, .int .i64 k1, .int .i64 a1, .slice A1 z1.length c1, .int .i64 s1, .slice F1 f1.length e1], .agg #[.string n2, .int .i64 k2, .int .i64 a2, .slice A2 z2.length c2, .int .i64 s2, .slice F2 f2.length e2]] w (Ret (.bool (decide ((⟨n1, k1, a1, z1, s1, f1⟩ : SD) = ⟨n2, k2, a2, z2, s2, f2⟩))) w) := by
  have B0 : Below w.heap.size w ((w.alloc (.cells #[.string n1, .int .i64 k1, .int .i64 a1, .slice A1 z1.length c1, .int .i64 s1, .slice F1 f1.length e1] 73)).alloc (.cells #[.string n2, .int .i64 k2, .int .i64 a2, .slice A2 z2.length c2, .int .i64 s2, .slice F2 f2.length e2] 73)) := (by repeat (first | exact Below.refl _ _ | with_reducible assumption | (refine Below.drew ?_) | (refine Below.drewN ?_ _) | (refine Below.alloc ?_ (by simp; try omega) _) | (refine Below.setCell ?_ (by simp; try omega) _)))
  have HA1 := hide (hA1.below B0)
  have HA2 := hide (hA2.below B0)
  have HF1 := hide (hF1.below B0)
  have HF2 := hide (hF2.below B0)
  have HB := hide B0
  have HX := hide ((Box.new w 73 #[.string n1, .int .i64 k1, .int .i64 a1, .slice A1 z1.length c1, .int .i64 s1, .slice F1 f1.length e1]).alloc (.cells #[.string n2, .int .i64 k2, .int .i64 a2, .slice A2 z2.length c2, .int .i64 s2, .slice F2 f2.length e2] 73))
  have HY0 := Box.new (w.alloc (.cells #[.string n1, .int .i64 k1, .int .i64 a1, .slice A1 z1.length c1, .int .i64 s1, .slice F1 f1.length e1] 73)) 73 #[.string n2, .int .i64 k2, .int .i64 a2, .slice A2 z2.length c2, .int .i64 s2, .slice F2 f2.length e2]
  simp only [World.size_alloc] at HY0
  have HY := hide HY0
  have HV := hide (show n1 = n2 → k1 = k2 → a1 = a2 → s1 = s2 → z1 = z2 → decide ((⟨n1, k1, a1, z1, s1, f1⟩ : SD) = ⟨n2, k2, a2, z2, s2, f2⟩) = decide (f1 = f2) from fun h1 h2 h3 h4 h5 => by subst h1 h2 h3 h4 h5; simp)
  have HN := hide (show (¬ (n1 = n2 ∧ k1 = k2 ∧ a1 = a2 ∧ s1 = s2 ∧ z1 = z2 ∧ f1.length = f2.length)) → decide ((⟨n1, k1, a1, z1, s1, f1⟩ : SD) = ⟨n2, k2, a2, z2, s2, f2⟩) = false from fun h => decide_eq_false fun e => h (by
    simp only [SD.mk.injEq] at e
    obtain ⟨h1, h2, h3, h4, h5, h6⟩ := e
    exact ⟨h1, h2, h3, h5, h4, by rw [h6]⟩))
  generalize decide ((⟨n1, k1, a1, z1, s1, f1⟩ : SD) = ⟨n2, k2, a2, z2, s2, f2⟩) = V at *
  clear hA1 hA2 hF1 hF2 B0 HY0
  by_cases hn : n1 = n2
  case neg =>
    have q : (n1.toList == n2.toList) = false := by rw [str_eq]; exact decide_eq_false hn
    have HR := hide (HN.out fun h => hn h.1)
    clear hn HV HN
    go_enter Try.func73, Try.ntmps73
    go_wp2_with fail
    go_ret
    exact ⟨by rw [HR.out]; rfl, HB.out⟩
  by_cases hk : k1 = k2
  case neg =>
    have q2 : (k1 != k2) = true := bne_iff_ne.2 hk
    have HR := hide (HN.out fun h => hk h.2.1)
    subst hn
    clear hk HV HN
    go_enter Try.func73, Try.ntmps73
    go_wp2_with fail
    go_ret
    exact ⟨by rw [HR.out]; rfl, HB.out⟩
  by_cases ha : a1 = a2
  case neg =>
    have q2 : (a1 != a2) = true := bne_iff_ne.2 ha
    have HR := hide (HN.out fun h => ha h.2.2.1)
    subst hn hk
    clear ha HV HN
    go_enter Try.func73, Try.ntmps73
    go_wp2_with fail
    go_ret
    exact ⟨by rw [HR.out]; rfl, HB.out⟩
  by_cases hs : s1 = s2
  case neg =>
    have q2 : (s1 != s2) = true := bne_iff_ne.2 hs
    have HR := hide (HN.out fun h => hs h.2.2.2.1)
    subst hn hk ha
    clear hs HV HN
    go_enter Try.func73, Try.ntmps73
    go_wp2_with fail
    go_ret
    exact ⟨by rw [HR.out]; rfl, HB.out⟩
  subst hn hk ha hs
  go_enter Try.func73, Try.ntmps73
  go_wp2_with fail
  generalize (w.alloc (.cells #[.string n1, .int .i64 k1, .int .i64 a1, .slice A1 z1.length c1, .int .i64 s1, .slice F1 f1.length e1] 73)).alloc (.cells #[.string n1, .int .i64 k1, .int .i64 a1, .slice A2 z2.length c2, .int .i64 s1, .slice F2 f2.length e2] 73) = w0 at *
  generalize w.heap.size + 1 = Y at *
  refine (sameBytes_any A1 A2 z1 z2 c1 c2 w.heap.size w0 HA1.out HA2.out (by unfold maxLen; omega) (by unfold maxLen; omega)).mono ?_
  rintro e w' ⟨rfl, n, rfl⟩
  have bd : Below w0.heap.size w0 (w0.drewN n) := below_dn (Below.refl _ _)
  replace HF1 := hide (HF1.out.below (bd.mono HB.out.size))
  replace HF2 := hide (HF2.out.below (bd.mono HB.out.size))
  replace HB := hide (HB.out.trans (bd.mono HB.out.size))
  replace HX := hide (HX.out.call bd)
  replace HY := hide (HY.out.call bd)
  clear bd
  generalize w0.drewN n = w1 at *
  have x5 := HX.out.cell 5
  simp only [List.getElem?_toArray, List.getElem?_cons_zero, List.getElem?_cons_succ] at x5
  have y5 := HY.out.cell 5
  simp only [List.getElem?_toArray, List.getElem?_cons_zero, List.getElem?_cons_succ] at y5
  have hxl := HX.out.lt
  have hyl := HY.out.lt
  by_cases hz : z1 = z2
  case neg =>
    have HR := hide (HN.out fun h => hz h.2.2.2.2.1)
    rw [beq_eq_false_iff_ne.2 hz]
    clear hz HV HN x5 y5 hxl hyl
    go_wp2_with fail
    go_ret
    exact ⟨by rw [HR.out]; rfl, HB.out⟩
  subst hz
  rw [beq_self_eq_true]
  by_cases hf : f1.length = f2.length
  case neg =>
    have q2 : ((f1.length : Int) != f2.length) = true := bne_iff_ne.2 (by omega)
    have HR := hide (HN.out fun h => hf h.2.2.2.2.2)
    clear hf HV HN
    go_wp2_with fail
    go_ret
    exact ⟨by rw [HR.out]; rfl, HB.out⟩
  have HVV := hide (HV.out (by first | rfl | trivial) (by first | rfl | trivial) (by first | rfl | trivial) (by first | rfl | trivial) (by first | rfl | trivial))
  have HF := hide hf
  clear HV HN hm1 hm2
  rw [← hf] at y5
  rw [← hf]
  clear hf
  have q2 : ((f1.length : Int) != f1.length) = false := by simp
  go_wp2_with fail
  clear x5 y5 hxl hyl q2
  go_loopw [5] (fun i wi => ∃ (k : Nat), k ≤ f1.length ∧ i = .int .i64 k ∧ f1.take k = f2.take k ∧ Below w1.heap.size w1 wi) (fun i _ => f1.length - (intOf i).toNat)
  case atStart => refine ⟨0, Nat.zero_le _, ?_, ?_, Below.refl _ _⟩ <;> first | rfl | trivial | simp
  case round =>
    obtain ⟨k, hk, rfl, ht, hb⟩ := hrel
    have HBI := hide hb
    have HX2 := hide (HX.out.call hb)
    have HY2 := hide (HY.out.call hb)
    have HT := hide ht
    clear ht
    by_cases hlt : k < f1.length
    · have hbl : Below w.heap.size w1 wr := hb.mono HB.out.size
      have hlt2 : k < f2.length := by have := HF.out; omega
      obtain ⟨b1, o1, hA1, hb1, hc⟩ := (HF1.out.below hbl).row fixupC_len (by decide) hlt
      obtain ⟨b2, o2, hA2, hb2, hd⟩ := (HF2.out.below hbl).row fixupC_len (by decide) hlt2
      have hc0 := hc 0 _ rfl
      have hc1 := hc 1 _ rfl
      have hc2 := hc 2 _ rfl
      have hc3 := hc 3 _ rfl
      have hd0 := hd 0 _ rfl
      have hd1 := hd 1 _ rfl
      have hd2 := hd 2 _ rfl
      have hd3 := hd 3 _ rfl
      simp only [Nat.add_zero] at hc0 hd0
      clear hc hd hbl hb
      have x5 := HX2.out.cell 5
      simp only [List.getElem?_toArray, List.getElem?_cons_zero, List.getElem?_cons_succ] at x5
      have y5 := HY2.out.cell 5
      simp only [List.getElem?_toArray, List.getElem?_cons_zero, List.getElem?_cons_succ] at y5
      rw [hA1] at x5
      rw [hA2] at y5
      rw [← HF.out] at y5
      have hxl := HX2.out.lt
      have hyl := HY2.out.lt
      have HGO := hide (fun h => take_eq_succ HT.out hlt hlt2 h)
      have HST := hide (show f1[k] ≠ f2[k] → decide (f1 = f2) = false from fun h => decide_eq_false fun e => h (by subst e; rfl))
      clear hA1 hA2 HT
      generalize f1[k] = z at *
      generalize f2[k] = u at *
      obtain ⟨g1, g2, g3, g4⟩ := z
      obtain ⟨u1, u2, u3, u4⟩ := u
      simp only at hc0 hc1 hc2 hc3 hd0 hd1 hd2 hd3
      by_cases he : ((g1, g2, g3, g4) : FD) = (u1, u2, u3, u4)
      · have HTT := hide (HGO.out he)
        simp only [Prod.mk.injEq] at he
        obtain ⟨rfl, rfl, rfl, rfl⟩ := he
        clear HGO HST
        go_wp2_with fail
        go_quiet (fail)
        go_wp2_with fail
        refine ⟨⟨k + 1, by omega, by go_num, HTT.out, Kit.Below.drewN HBI.out _⟩, by first | (simp [intOf]; done) | (simp [intOf]; omega)⟩
      · have HR := hide (HVV.out.trans (HST.out he))
        by_cases h0 : g1 = u1
        case neg =>
          have q : (g1 == u1) = false := beq_eq_false_iff_ne.2 h0
          clear h0
          clear HGO HST he
          go_wp2_with fail
          go_quiet (fail)
          go_wp2_with fail
          go_ret
          exact ⟨by rw [HR.out]; rfl, HB.out.trans ((Kit.Below.drewN HBI.out _).mono HB.out.size)⟩
        subst h0
        by_cases h1 : g2 = u2
        case neg =>
          have q : (g2 == u2) = false := beq_eq_false_iff_ne.2 h1
          clear h1
          clear HGO HST he
          go_wp2_with fail
          go_quiet (fail)
          go_wp2_with fail
          go_ret
          exact ⟨by rw [HR.out]; rfl, HB.out.trans ((Kit.Below.drewN HBI.out _).mono HB.out.size)⟩
        subst h1
        by_cases h2 : g3 = u3
        case neg =>
          have q : (g3 == u3) = false := beq_eq_false_iff_ne.2 h2
          clear h2
          clear HGO HST he
          go_wp2_with fail
          go_quiet (fail)
          go_wp2_with fail
          go_ret
          exact ⟨by rw [HR.out]; rfl, HB.out.trans ((Kit.Below.drewN HBI.out _).mono HB.out.size)⟩
        subst h2
        by_cases h3 : g4 = u4
        case neg =>
          have q : (g4 == u4) = false := beq_eq_false_iff_ne.2 h3
          clear h3
          clear HGO HST he
          go_wp2_with fail
          go_quiet (fail)
          go_wp2_with fail
          go_ret
          exact ⟨by rw [HR.out]; rfl, HB.out.trans ((Kit.Below.drewN HBI.out _).mono HB.out.size)⟩
        subst h3
        exact absurd rfl he
    · have hke : k = f1.length := by omega
      have x5 := HX2.out.cell 5
      simp only [List.getElem?_toArray, List.getElem?_cons_zero, List.getElem?_cons_succ] at x5
      have hxl := HX2.out.lt
      have HR := hide (show V = true from by
        rw [HVV.out]
        refine decide_eq_true ?_
        have h := HT.out
        rw [hke, List.take_length, HF.out, List.take_length] at h
        exact h)
      subst hke
      clear hb
      go_wp2_with fail
      go_ret
      exact ⟨by rw [HR.out]; rfl, HB.out.trans (HBI.out.mono HB.out.size)⟩
set_option maxHeartbeats 4000000 in
theorem sameObjectG_any (o o' : OV) (w : World) (h : RdO w w.heap.size o) (h' : RdO w w.heap.size o') (hm : Lim o) (hm' : Lim o') :
    Calls Try.prog 28 #[.agg #[.slice o.A o.ps.length o.c, .slice o.Y o.ys.length o.yc], .agg #[.slice o'.A o'.ps.length o'.c, .slice o'.Y o'.ys.length o'.yc]] w (Ret (.bool (decide (o.d = o'.d))) w) := by
  obtain ⟨hm1, hm2, hm3⟩ := hm
  obtain ⟨hk1, hk2, hk3⟩ := hm'
  have HM := hide hm3
  have HM' := hide hk3
  have B0 : Below w.heap.size w ((w.alloc (.cells #[.slice o.A o.ps.length o.c, .slice o.Y o.ys.length o.yc] 26)).alloc (.cells #[.slice o'.A o'.ps.length o'.c, .slice o'.Y o'.ys.length o'.yc] 26)) := (by repeat (first | exact Below.refl _ _ | with_reducible assumption | (refine Below.drew ?_) | (refine Below.drewN ?_ _) | (refine Below.alloc ?_ (by simp; try omega) _) | (refine Below.setCell ?_ (by simp; try omega) _)))
  have HR := hide (h.below B0)
  have HR' := hide (h'.below B0)
  have HB := hide B0
  have HX := hide ((Box.new w 26 #[.slice o.A o.ps.length o.c, .slice o.Y o.ys.length o.yc]).alloc (.cells #[.slice o'.A o'.ps.length o'.c, .slice o'.Y o'.ys.length o'.yc] 26))
  have HY0 := Box.new (w.alloc (.cells #[.slice o.A o.ps.length o.c, .slice o.Y o.ys.length o.yc] 26)) 26 #[.slice o'.A o'.ps.length o'.c, .slice o'.Y o'.ys.length o'.yc]
  simp only [World.size_alloc] at HY0
  have HY := hide HY0
  have HV := hide (show (o.ps.map SV.d = o'.ps.map SV.d ∧ o.ys = o'.ys) ↔ o.d = o'.d from od_iff o.d o'.d)
  generalize hVV : decide (o.d = o'.d) = V at *
  have HVD := hide hVV
  clear h h' B0 HY0 hm3 hk3 hVV
  by_cases hl : o.ps.length = o'.ps.length
  case neg =>
    have q2 : ((o.ps.length : Int) != o'.ps.length) = true := bne_iff_ne.2 (by omega)
    have HRR := hide (show V = false from by
      rw [← HVD.out]
      refine decide_eq_false fun e => hl ?_
      have h := congrArg List.length (HV.out.2 e).1
      simpa using h)
    clear hl
    go_enter Try.func28, Try.ntmps28
    go_wp2_with fail
    go_ret
    exact ⟨by rw [HRR.out]; rfl, HB.out⟩
  by_cases hy : o.ys.length = o'.ys.length
  case neg =>
    have q1 : ((o.ps.length : Int) != o'.ps.length) = false := by simp [hl]
    have q2 : ((o.ys.length : Int) != o'.ys.length) = true := bne_iff_ne.2 (by omega)
    have HRR := hide (show V = false from by
      rw [← HVD.out]
      refine decide_eq_false fun e => hy ?_
      rw [(HV.out.2 e).2])
    clear hl hy
    go_enter Try.func28, Try.ntmps28
    go_wp2_with fail
    go_ret
    exact ⟨by rw [HRR.out]; rfl, HB.out⟩
  have HPL := hide hl
  have HYL := hide hy
  rw [← hl, ← hy] at HY ⊢
  have q1 : ((o.ps.length : Int) != o.ps.length) = false := by simp
  have q2 : ((o.ys.length : Int) != o.ys.length) = false := by simp
  clear hl hy
  go_enter Try.func28, Try.ntmps28
  go_wp2_with fail
  rw [← HPL.out, ← HYL.out] at HX HR HR' HB
  generalize (w.alloc (.cells #[.slice o.A o.ps.length o.c, .slice o.Y o.ys.length o.yc] 26)).alloc (.cells #[.slice o'.A o.ps.length o'.c, .slice o'.Y o.ys.length o'.yc] 26) = w1 at *
  generalize w.heap.size + 1 = Y at *
  clear q1 q2
  go_loopw [5] (fun i wi => ∃ (k : Nat), k ≤ o.ps.length ∧ i = .int .i64 k ∧ (o.ps.take k).map SV.d = (o'.ps.take k).map SV.d ∧ Below w1.heap.size w1 wi) (fun i _ => o.ps.length - (intOf i).toNat)
  case atStart => refine ⟨0, Nat.zero_le _, ?_, ?_, Below.refl _ _⟩ <;> first | rfl | trivial | simp
  case round =>
    obtain ⟨k, hk, rfl, ht, hb⟩ := hrel
    have HBI := hide hb
    have HX2 := hide (HX.out.call hb)
    have HY2 := hide (HY.out.call hb)
    have HT := hide ht
    clear ht
    by_cases hlt : k < o.ps.length
    · have hbl : Below w.heap.size w1 wr := hb.mono HB.out.size
      have hlt' : k < o'.ps.length := by rw [← HPL.out]; exact hlt
      obtain ⟨b1, o1, hA1, hb1, hc⟩ := (HR.out.1.1.below hbl).row secC_len (by decide) hlt
      obtain ⟨b2, o2, hA2, hb2, hd⟩ := (HR'.out.1.1.below hbl).row secC_len (by decide) hlt'
      have HP := hide ((HR.out.1.2 _ (List.getElem_mem hlt)).below hbl)
      have HP' := hide ((HR'.out.1.2 _ (List.getElem_mem hlt')).below hbl)
      have HGO := hide (show (o.ps[k]).d = (o'.ps[k]).d → (o.ps.take (k + 1)).map SV.d = (o'.ps.take (k + 1)).map SV.d from fun e => by
        rw [take_succ hlt, take_succ hlt', List.map_append, List.map_append, HT.out]
        simp [e])
      have HST := hide (show (o.ps[k]).d ≠ (o'.ps[k]).d → V = false from fun e => by
        rw [← HVD.out]
        refine decide_eq_false fun q => e ?_
        have h := (HV.out.2 q).1
        have h2 : (o.ps.map SV.d)[k]? = (o'.ps.map SV.d)[k]? := by rw [h]
        rw [List.getElem?_map, List.getElem?_map, List.getElem?_eq_getElem hlt, List.getElem?_eq_getElem hlt'] at h2
        exact Option.some.inj h2)
      have hlim := HM.out _ (List.getElem_mem hlt)
      have hlim' := HM'.out _ (List.getElem_mem hlt')
      have hc0 := hc 0 _ rfl
      have hc1 := hc 1 _ rfl
      have hc2 := hc 2 _ rfl
      have hc3 := hc 3 _ rfl
      have hc4 := hc 4 _ rfl
      have hc5 := hc 5 _ rfl
      have hd0 := hd 0 _ rfl
      have hd1 := hd 1 _ rfl
      have hd2 := hd 2 _ rfl
      have hd3 := hd 3 _ rfl
      have hd4 := hd 4 _ rfl
      have hd5 := hd 5 _ rfl
      simp only [Nat.add_zero] at hc0 hd0
      clear hc hd hb
      have x0 := HX2.out.cell 0
      simp only [List.getElem?_toArray, List.getElem?_cons_zero, List.getElem?_cons_succ] at x0
      have y0 := HY2.out.cell 0
      simp only [List.getElem?_toArray, List.getElem?_cons_zero, List.getElem?_cons_succ] at y0
      rw [hA1] at x0
      rw [hA2] at y0
      clear hA1 hA2
      generalize o'.ps[k] = q at *
      generalize o.ps[k] = p at *
      have hxl := HX2.out.lt
      have hyl := HY2.out.lt
      obtain ⟨hl1, hl2⟩ := hlim
      obtain ⟨hl3, hl4⟩ := hlim'
      go_wp2_with fail
      have Z0 : wr.cell? ⟨w.heap.size, 0, none⟩ = some (.slice (some ⟨b1, o1, none⟩) o.ps.length o.c) ∧ wr.cell? ⟨Y, 0, none⟩ = some (.slice (some ⟨b2, o2, none⟩) o.ps.length o'.c) ∧ wr.cell? ⟨b1, o1 + k * 6, none⟩ = some (.string p.nm) ∧ wr.cell? ⟨b1, o1 + k * 6 + 1, none⟩ = some (.int .i64 p.kd) ∧ wr.cell? ⟨b1, o1 + k * 6 + 2, none⟩ = some (.int .i64 p.al) ∧ wr.cell? ⟨b1, o1 + k * 6 + 3, none⟩ = some (.slice p.A p.zs.length p.c) ∧ wr.cell? ⟨b1, o1 + k * 6 + 4, none⟩ = some (.int .i64 p.sz) ∧ wr.cell? ⟨b1, o1 + k * 6 + 5, none⟩ = some (.slice p.F p.fs.length p.fc) ∧ wr.cell? ⟨b2, o2 + k * 6, none⟩ = some (.string q.nm) ∧ wr.cell? ⟨b2, o2 + k * 6 + 1, none⟩ = some (.int .i64 q.kd) ∧ wr.cell? ⟨b2, o2 + k * 6 + 2, none⟩ = some (.int .i64 q.al) ∧ wr.cell? ⟨b2, o2 + k * 6 + 3, none⟩ = some (.slice q.A q.zs.length q.c) ∧ wr.cell? ⟨b2, o2 + k * 6 + 4, none⟩ = some (.int .i64 q.sz) ∧ wr.cell? ⟨b2, o2 + k * 6 + 5, none⟩ = some (.slice q.F q.fs.length q.fc) := ⟨x0, y0, hc0, hc1, hc2, hc3, hc4, hc5, hd0, hd1, hd2, hd3, hd4, hd5⟩
      refine Reg.startT (fun W => W.cell? ⟨w.heap.size, 0, none⟩ = some (.slice (some ⟨b1, o1, none⟩) o.ps.length o.c) ∧ W.cell? ⟨Y, 0, none⟩ = some (.slice (some ⟨b2, o2, none⟩) o.ps.length o'.c) ∧ W.cell? ⟨b1, o1 + k * 6, none⟩ = some (.string p.nm) ∧ W.cell? ⟨b1, o1 + k * 6 + 1, none⟩ = some (.int .i64 p.kd) ∧ W.cell? ⟨b1, o1 + k * 6 + 2, none⟩ = some (.int .i64 p.al) ∧ W.cell? ⟨b1, o1 + k * 6 + 3, none⟩ = some (.slice p.A p.zs.length p.c) ∧ W.cell? ⟨b1, o1 + k * 6 + 4, none⟩ = some (.int .i64 p.sz) ∧ W.cell? ⟨b1, o1 + k * 6 + 5, none⟩ = some (.slice p.F p.fs.length p.fc) ∧ W.cell? ⟨b2, o2 + k * 6, none⟩ = some (.string q.nm) ∧ W.cell? ⟨b2, o2 + k * 6 + 1, none⟩ = some (.int .i64 q.kd) ∧ W.cell? ⟨b2, o2 + k * 6 + 2, none⟩ = some (.int .i64 q.al) ∧ W.cell? ⟨b2, o2 + k * 6 + 3, none⟩ = some (.slice q.A q.zs.length q.c) ∧ W.cell? ⟨b2, o2 + k * 6 + 4, none⟩ = some (.int .i64 q.sz) ∧ W.cell? ⟨b2, o2 + k * 6 + 5, none⟩ = some (.slice q.F q.fs.length q.fc)) (fun _ => false) (by kernel_rfl) ?_
      have hHeld : wr.drew.cell? ⟨w.heap.size, 0, none⟩ = some (.slice (some ⟨b1, o1, none⟩) o.ps.length o.c) ∧ wr.drew.cell? ⟨Y, 0, none⟩ = some (.slice (some ⟨b2, o2, none⟩) o.ps.length o'.c) ∧ wr.drew.cell? ⟨b1, o1 + k * 6, none⟩ = some (.string p.nm) ∧ wr.drew.cell? ⟨b1, o1 + k * 6 + 1, none⟩ = some (.int .i64 p.kd) ∧ wr.drew.cell? ⟨b1, o1 + k * 6 + 2, none⟩ = some (.int .i64 p.al) ∧ wr.drew.cell? ⟨b1, o1 + k * 6 + 3, none⟩ = some (.slice p.A p.zs.length p.c) ∧ wr.drew.cell? ⟨b1, o1 + k * 6 + 4, none⟩ = some (.int .i64 p.sz) ∧ wr.drew.cell? ⟨b1, o1 + k * 6 + 5, none⟩ = some (.slice p.F p.fs.length p.fc) ∧ wr.drew.cell? ⟨b2, o2 + k * 6, none⟩ = some (.string q.nm) ∧ wr.drew.cell? ⟨b2, o2 + k * 6 + 1, none⟩ = some (.int .i64 q.kd) ∧ wr.drew.cell? ⟨b2, o2 + k * 6 + 2, none⟩ = some (.int .i64 q.al) ∧ wr.drew.cell? ⟨b2, o2 + k * 6 + 3, none⟩ = some (.slice q.A q.zs.length q.c) ∧ wr.drew.cell? ⟨b2, o2 + k * 6 + 4, none⟩ = some (.int .i64 q.sz) ∧ wr.drew.cell? ⟨b2, o2 + k * 6 + 5, none⟩ = some (.slice q.F q.fs.length q.fc) := Z0
      clear Z0 x0 y0 hc0 hc1 hc2 hc3 hc4 hc5 hd0 hd1 hd2 hd3 hd4 hd5
      refine Reg.takeT (i := 0) (v := ?_) rfl (by kernel_rfl) (by kernel_rfl) (by kernel_rfl) (by kernel_rfl) (fun _ _ _ h => h) (Or.inl ⟨by rfl, ?_⟩) (by assumption) ?_
      rotate_left 1
      focus (intro w hSw; (try dsimp only at hSw); go_simp; (try with_reducible rfl))
      try simp only [List.getElem_toArray, List.getElem_cons_succ, List.getElem_cons_zero, Act.put, List.setIfInBounds_toArray, List.set_cons_zero, List.set_cons_succ]
      refine Reg.takeT (i := 1) (v := ?_) rfl (by kernel_rfl) (by kernel_rfl) (by kernel_rfl) (by kernel_rfl) (fun _ _ _ h => h) (Or.inl ⟨by rfl, ?_⟩) (by assumption) ?_
      rotate_left 1
      focus (intro w hSw; (try dsimp only at hSw); go_simp; (try with_reducible rfl))
      try simp only [List.getElem_toArray, List.getElem_cons_succ, List.getElem_cons_zero, Act.put, List.setIfInBounds_toArray, List.set_cons_zero, List.set_cons_succ]
      refine Reg.takeT (i := 2) (v := ?_) rfl (by kernel_rfl) (by kernel_rfl) (by kernel_rfl) (by kernel_rfl) (fun _ _ _ h => h) (Or.inl ⟨by rfl, ?_⟩) (by assumption) ?_
      rotate_left 1
      focus (intro w hSw; (try dsimp only at hSw); go_simp; (try with_reducible rfl))
      try simp only [List.getElem_toArray, List.getElem_cons_succ, List.getElem_cons_zero, Act.put, List.setIfInBounds_toArray, List.set_cons_zero, List.set_cons_succ]
      refine Reg.takeT (i := 3) (v := ?_) rfl (by kernel_rfl) (by kernel_rfl) (by kernel_rfl) (by kernel_rfl) (fun _ _ _ h => h) (Or.inl ⟨by rfl, ?_⟩) (by assumption) ?_
      rotate_left 1
      focus (intro w hSw; (try dsimp only at hSw); go_simp; (try with_reducible rfl))
      try simp only [List.getElem_toArray, List.getElem_cons_succ, List.getElem_cons_zero, Act.put, List.setIfInBounds_toArray, List.set_cons_zero, List.set_cons_succ]
      refine Reg.takeT (i := 4) (v := ?_) rfl (by kernel_rfl) (by kernel_rfl) (by kernel_rfl) (by kernel_rfl) (fun _ _ _ h => h) (Or.inl ⟨by rfl, ?_⟩) (by assumption) ?_
      rotate_left 1
      focus (intro w hSw; (try dsimp only at hSw); go_simp; (try with_reducible rfl))
      try simp only [List.getElem_toArray, List.getElem_cons_succ, List.getElem_cons_zero, Act.put, List.setIfInBounds_toArray, List.set_cons_zero, List.set_cons_succ]
      refine Reg.takeT (i := 5) (v := ?_) rfl (by kernel_rfl) (by kernel_rfl) (by kernel_rfl) (by kernel_rfl) (fun _ _ _ h => h) (Or.inl ⟨by rfl, ?_⟩) (by assumption) ?_
      rotate_left 1
      focus (intro w hSw; (try dsimp only at hSw); go_simp; (try with_reducible rfl))
      try simp only [List.getElem_toArray, List.getElem_cons_succ, List.getElem_cons_zero, Act.put, List.setIfInBounds_toArray, List.set_cons_zero, List.set_cons_succ]
      refine Reg.takeT (i := 6) (v := ?_) rfl (by kernel_rfl) (by kernel_rfl) (by kernel_rfl) (by kernel_rfl) (fun _ _ _ h => h) (Or.inl ⟨by rfl, ?_⟩) (by assumption) ?_
      rotate_left 1
      focus (intro w hSw; (try dsimp only at hSw); go_simp; (try with_reducible rfl))
      try simp only [List.getElem_toArray, List.getElem_cons_succ, List.getElem_cons_zero, Act.put, List.setIfInBounds_toArray, List.set_cons_zero, List.set_cons_succ]
      refine Reg.takeT (i := 7) (v := ?_) rfl (by kernel_rfl) (by kernel_rfl) (by kernel_rfl) (by kernel_rfl) (fun _ _ _ h => h) (Or.inl ⟨by rfl, ?_⟩) (by assumption) ?_
      rotate_left 1
      focus (intro w hSw; (try dsimp only at hSw); go_simp; (try with_reducible rfl))
      try simp only [List.getElem_toArray, List.getElem_cons_succ, List.getElem_cons_zero, Act.put, List.setIfInBounds_toArray, List.set_cons_zero, List.set_cons_succ]
      refine Reg.takeT (i := 8) (v := ?_) rfl (by kernel_rfl) (by kernel_rfl) (by kernel_rfl) (by kernel_rfl) (fun _ _ _ h => h) (Or.inl ⟨by rfl, ?_⟩) (by assumption) ?_
      rotate_left 1
      focus (intro w hSw; (try dsimp only at hSw); go_simp; (try with_reducible rfl))
      try simp only [List.getElem_toArray, List.getElem_cons_succ, List.getElem_cons_zero, Act.put, List.setIfInBounds_toArray, List.set_cons_zero, List.set_cons_succ]
      refine Reg.takeT (i := 9) (v := ?_) rfl (by kernel_rfl) (by kernel_rfl) (by kernel_rfl) (by kernel_rfl) (fun _ _ _ h => h) (Or.inl ⟨by rfl, ?_⟩) (by assumption) ?_
      rotate_left 1
      focus (intro w hSw; (try dsimp only at hSw); go_simp; (try with_reducible rfl))
      try simp only [List.getElem_toArray, List.getElem_cons_succ, List.getElem_cons_zero, Act.put, List.setIfInBounds_toArray, List.set_cons_zero, List.set_cons_succ]
      have bd : Below wr.heap.size wr wr.drew := below_dr (Below.refl _ _)
      have HBD := hide (HBI.out.trans (bd.mono HBI.out.size))
      have hwl : w.heap.size ≤ wr.drew.heap.size := Nat.le_trans (Nat.le_of_lt hxl) (Nat.le_refl _)
      refine Reg.oneT (i := 10) rfl (by kernel_rfl) (fun K hK => ?_)
      go_simp
      have HRA := hide ((HP.out.below (bd.mono (Nat.le_of_lt hxl))).more hwl)
      have HRB := hide ((HP'.out.below (bd.mono (Nat.le_of_lt hxl))).more hwl)
      refine (sameSectionG_any p.nm q.nm p.kd q.kd p.al q.al p.A q.A p.c q.c p.zs q.zs p.sz q.sz p.F q.F p.fc q.fc p.fs q.fs wr.drew HRA.out.1 HRB.out.1 HRA.out.2 HRB.out.2 hl1 hl3 hl2 hl4).mono ?_
      rintro e w4 ⟨rfl, b4⟩
      have HB4 := hide (HBD.out.trans (b4.mono HBD.out.size))
      obtain ⟨a0, a1, a2, a3, a4, a5, a6, a7, a8, a9, a10, a11, a12, a13⟩ := hHeld
      have hHeld : w4.cell? ⟨w.heap.size, 0, none⟩ = some (.slice (some ⟨b1, o1, none⟩) o.ps.length o.c) ∧ w4.cell? ⟨Y, 0, none⟩ = some (.slice (some ⟨b2, o2, none⟩) o.ps.length o'.c) ∧ w4.cell? ⟨b1, o1 + k * 6, none⟩ = some (.string p.nm) ∧ w4.cell? ⟨b1, o1 + k * 6 + 1, none⟩ = some (.int .i64 p.kd) ∧ w4.cell? ⟨b1, o1 + k * 6 + 2, none⟩ = some (.int .i64 p.al) ∧ w4.cell? ⟨b1, o1 + k * 6 + 3, none⟩ = some (.slice p.A p.zs.length p.c) ∧ w4.cell? ⟨b1, o1 + k * 6 + 4, none⟩ = some (.int .i64 p.sz) ∧ w4.cell? ⟨b1, o1 + k * 6 + 5, none⟩ = some (.slice p.F p.fs.length p.fc) ∧ w4.cell? ⟨b2, o2 + k * 6, none⟩ = some (.string q.nm) ∧ w4.cell? ⟨b2, o2 + k * 6 + 1, none⟩ = some (.int .i64 q.kd) ∧ w4.cell? ⟨b2, o2 + k * 6 + 2, none⟩ = some (.int .i64 q.al) ∧ w4.cell? ⟨b2, o2 + k * 6 + 3, none⟩ = some (.slice q.A q.zs.length q.c) ∧ w4.cell? ⟨b2, o2 + k * 6 + 4, none⟩ = some (.int .i64 q.sz) ∧ w4.cell? ⟨b2, o2 + k * 6 + 5, none⟩ = some (.slice q.F q.fs.length q.fc) := ⟨(b4.cell (World.block_lt_of_cell? _ _ a0)).trans a0, (b4.cell (World.block_lt_of_cell? _ _ a1)).trans a1, (b4.cell (World.block_lt_of_cell? _ _ a2)).trans a2, (b4.cell (World.block_lt_of_cell? _ _ a3)).trans a3, (b4.cell (World.block_lt_of_cell? _ _ a4)).trans a4, (b4.cell (World.block_lt_of_cell? _ _ a5)).trans a5, (b4.cell (World.block_lt_of_cell? _ _ a6)).trans a6, (b4.cell (World.block_lt_of_cell? _ _ a7)).trans a7, (b4.cell (World.block_lt_of_cell? _ _ a8)).trans a8, (b4.cell (World.block_lt_of_cell? _ _ a9)).trans a9, (b4.cell (World.block_lt_of_cell? _ _ a10)).trans a10, (b4.cell (World.block_lt_of_cell? _ _ a11)).trans a11, (b4.cell (World.block_lt_of_cell? _ _ a12)).trans a12, (b4.cell (World.block_lt_of_cell? _ _ a13)).trans a13⟩
      refine hK.out _ _ hHeld ?_
      clear hK K a0 a1 a2 a3 a4 a5 a6 a7 a8 a9 a10 a11 a12 a13 b4 bd HRA HRB
      try simp only [List.getElem_toArray, List.getElem_cons_succ, List.getElem_cons_zero, Act.put, List.setIfInBounds_toArray, List.set_cons_zero, List.set_cons_succ]
      have hsd : decide ((⟨p.nm, p.kd, p.al, p.zs, p.sz, p.fs⟩ : SD) = ⟨q.nm, q.kd, q.al, q.zs, q.sz, q.fs⟩) = decide (p.d = q.d) := rfl
      rw [hsd]
      clear hsd
      by_cases hdd : p.d = q.d
      · rw [decide_eq_true hdd]
        have HTT := hide (HGO.out hdd)
        clear HGO HST hdd
        refine Reg.takeT (i := 11) (v := ?_) rfl (by kernel_rfl) (by kernel_rfl) (by kernel_rfl) (by kernel_rfl) (fun _ _ _ h => h) (Or.inl ⟨by rfl, ?_⟩) (by assumption) ?_
        rotate_left 1
        focus (intro w hSw; (try dsimp only at hSw); go_simp; (try with_reducible rfl))
        try simp only [List.getElem_toArray, List.getElem_cons_succ, List.getElem_cons_zero, Act.put, List.setIfInBounds_toArray, List.set_cons_zero, List.set_cons_succ]
        clear hHeld
        refine Reg.doneT (by kernel_rfl) ?_ _
        go_wp2_with fail
        refine ⟨⟨k + 1, by omega, by go_num, HTT.out, HB4.out⟩, by simp [intOf]; omega⟩
      · rw [decide_eq_false hdd]
        have HRR := hide (HST.out hdd)
        clear HGO HST hdd
        refine Reg.takeT (i := 11) (v := ?_) rfl (by kernel_rfl) (by kernel_rfl) (by kernel_rfl) (by kernel_rfl) (fun _ _ _ h => h) (Or.inl ⟨by rfl, ?_⟩) (by assumption) ?_
        rotate_left 1
        focus (intro w hSw; (try dsimp only at hSw); go_simp; (try with_reducible rfl))
        try simp only [List.getElem_toArray, List.getElem_cons_succ, List.getElem_cons_zero, Act.put, List.setIfInBounds_toArray, List.set_cons_zero, List.set_cons_succ]
        clear hHeld
        refine Reg.doneT (by kernel_rfl) ?_ _
        go_wp2_with fail
        go_ret
        exact ⟨by rw [HRR.out]; rfl, HB.out.trans (HB4.out.mono HB.out.size)⟩
    · have hke : k = o.ps.length := by omega
      have x0 := HX2.out.cell 0
      simp only [List.getElem?_toArray, List.getElem?_cons_zero, List.getElem?_cons_succ] at x0
      have hxl := HX2.out.lt
      have HSS := hide (show o.ps.map SV.d = o'.ps.map SV.d from by
        have h := HT.out
        rw [hke, List.take_length, HPL.out, List.take_length] at h
        exact h)
      subst hke
      have HBS := hide (HB.out.trans (hb.mono HB.out.size))
      clear hb
      go_wp2_with fail
      clear x0 hxl
      have HXR := hide HX2.out
      have HYR := hide HY2.out
      have HR2 := hide (HR.out.2.below (HBI.out.mono HB.out.size))
      have HR2' := hide (HR'.out.2.below (HBI.out.mono HB.out.size))
      have hwl : w.heap.size ≤ wr.heap.size := HBS.out.size
      go_loopw [6] (fun i wi => ∃ (k : Nat), k ≤ o.ys.length ∧ i = .int .i64 k ∧ o.ys.take k = o'.ys.take k ∧ Below wr.heap.size wr wi) (fun i _ => o.ys.length - (intOf i).toNat)
      case atStart => refine ⟨0, Nat.zero_le _, ?_, ?_, Below.refl _ _⟩ <;> first | rfl | trivial | simp
      case round =>
        rename World => wj
        obtain ⟨k, hk2, rfl, ht, hb⟩ := hrel
        have HBJ := hide hb
        have HX3 := hide (HXR.out.call hb)
        have HY3 := hide (HYR.out.call hb)
        have HTY := hide ht
        clear ht
        by_cases hlk : k < o.ys.length
        · have hlk' : k < o'.ys.length := by rw [← HYL.out]; exact hlk
          obtain ⟨b1, o1, hA1, hb1, hc⟩ := (HR2.out.below (hb.mono hwl)).row symbolC_len (by decide) hlk
          obtain ⟨b2, o2, hA2, hb2, hd⟩ := (HR2'.out.below (hb.mono hwl)).row symbolC_len (by decide) hlk'
          have hc0 := hc 0 _ rfl
          have hc1 := hc 1 _ rfl
          have hc2 := hc 2 _ rfl
          have hc3 := hc 3 _ rfl
          have hd0 := hd 0 _ rfl
          have hd1 := hd 1 _ rfl
          have hd2 := hd 2 _ rfl
          have hd3 := hd 3 _ rfl
          simp only [Nat.add_zero] at hc0 hd0
          clear hc hd hb
          have x1 := HX3.out.cell 1
          simp only [List.getElem?_toArray, List.getElem?_cons_zero, List.getElem?_cons_succ] at x1
          have y1 := HY3.out.cell 1
          simp only [List.getElem?_toArray, List.getElem?_cons_zero, List.getElem?_cons_succ] at y1
          rw [hA1] at x1
          rw [hA2] at y1
          have hxl := HX3.out.lt
          have hyl := HY3.out.lt
          have HGO := hide (fun h => take_eq_succ HTY.out hlk hlk' h)
          have HST := hide (show o.ys[k] ≠ o'.ys[k] → V = false from fun h => by
            rw [← HVD.out]
            refine decide_eq_false fun e => h ?_
            have h2 : o.ys[k]? = o'.ys[k]? := by rw [(HV.out.2 e).2]
            rw [List.getElem?_eq_getElem hlk, List.getElem?_eq_getElem hlk'] at h2
            exact Option.some.inj h2)
          clear hA1 hA2
          generalize o.ys[k] = z at *
          generalize o'.ys[k] = u at *
          obtain ⟨g1, g2, g3, g4⟩ := z
          obtain ⟨u1, u2, u3, u4⟩ := u
          simp only at hc0 hc1 hc2 hc3 hd0 hd1 hd2 hd3
          by_cases he : ((g1, g2, g3, g4) : YD) = (u1, u2, u3, u4)
          · have HTT := hide (HGO.out he)
            simp only [Prod.mk.injEq] at he
            obtain ⟨rfl, rfl, rfl, rfl⟩ := he
            clear HGO HST
            go_wp2_with fail
            go_quiet (fail)
            go_wp2_with fail
            refine ⟨⟨k + 1, by omega, by go_num, HTT.out, Kit.Below.drewN HBJ.out _⟩, by first | (simp [intOf]; done) | (simp [intOf]; omega)⟩
          · have HR := hide (HST.out he)
            by_cases h0 : g1 = u1
            case neg =>
              have q : (g1.toList == u1.toList) = false := by rw [str_eq]; exact decide_eq_false h0
              clear h0
              clear HGO HST he
              go_wp2_with fail
              go_quiet (fail)
              go_wp2_with fail
              go_ret
              exact ⟨by rw [HR.out]; rfl, HBS.out.trans ((Kit.Below.drewN HBJ.out _).mono HBS.out.size)⟩
            subst h0
            by_cases h1 : g2 = u2
            case neg =>
              have q : (g2 == u2) = false := beq_eq_false_iff_ne.2 h1
              clear h1
              clear HGO HST he
              go_wp2_with fail
              go_quiet (fail)
              go_wp2_with fail
              go_ret
              exact ⟨by rw [HR.out]; rfl, HBS.out.trans ((Kit.Below.drewN HBJ.out _).mono HBS.out.size)⟩
            subst h1
            by_cases h2 : g3 = u3
            case neg =>
              have q : (g3 == u3) = false := beq_eq_false_iff_ne.2 h2
              clear h2
              clear HGO HST he
              go_wp2_with fail
              go_quiet (fail)
              go_wp2_with fail
              go_ret
              exact ⟨by rw [HR.out]; rfl, HBS.out.trans ((Kit.Below.drewN HBJ.out _).mono HBS.out.size)⟩
            subst h2
            by_cases h3 : g4 = u4
            case neg =>
              have q : (g4 == u4) = false := beq_eq_false_iff_ne.2 h3
              clear h3
              clear HGO HST he
              go_wp2_with fail
              go_quiet (fail)
              go_wp2_with fail
              go_ret
              exact ⟨by rw [HR.out]; rfl, HBS.out.trans ((Kit.Below.drewN HBJ.out _).mono HBS.out.size)⟩
            subst h3
            exact absurd rfl he
        · have hke : k = o.ys.length := by omega
          have HRR := hide (show V = true from by
            rw [← HVD.out]
            refine decide_eq_true (HV.out.1 ⟨HSS.out, ?_⟩)
            have h := HTY.out
            rw [hke, List.take_length, HYL.out, List.take_length] at h
            exact h)
          subst hke
          have x1 := HX3.out.cell 1
          simp only [List.getElem?_toArray, List.getElem?_cons_zero, List.getElem?_cons_succ] at x1
          have hxl := HX3.out.lt
          clear hb
          go_wp2_with fail
          go_ret
          exact ⟨by rw [HRR.out]; rfl, HBS.out.trans (HBJ.out.mono HBS.out.size)⟩
end Go.Proofs.Ytmglgjchemecjaa.CSameG
/- Contracts of the reference's reader of drawn bytes: it turns its own block alone, and its numbers are in range. -/
namespace Go.Proofs.Ytmglgjchemecjaa.DPick
set_option maxRecDepth 200000
open Go.ChangeShapes Go.WideShapes Go.ChangeAt Go.RowKit Kit
/-- The reader: its block R holds bytes that lie below block B, and a place of at most N. -/
def Tape (w : World) (B R : Nat) (N : Int) : Prop :=
  B ≤ R ∧ ∃ (A : Option Addr) (zs : List Int) (c : Nat) (p : Int), Box w R 129 #[.slice A zs.length c, .int .i64 p] ∧ Rd w B A (ints .u8 zs) ∧ InR 0 255 zs ∧ zs.length ≤ 2000 ∧ 0 ≤ p ∧ p ≤ N
section
variable {w w' : World} {B R : Nat} {N : Int}
theorem Tape.lt (h : Tape w B R N) : R < w.heap.size := by
  obtain ⟨_, A, zs, c, p, hb, _⟩ := h
  exact hb.lt
theorem Tape.more (h : Tape w B R N) {N' : Int} (hN : N ≤ N') : Tape w B R N' := by
  obtain ⟨h0, A, zs, c, p, hb, hr, hz, hl, p0, p1⟩ := h
  exact ⟨h0, A, zs, c, p, hb, hr, hz, hl, p0, by omega⟩
theorem Tape.below (h : Tape w B R N) (hb : Below (R + 1) w w') : Tape w' B R N := by
  obtain ⟨h0, A, zs, c, p, hx, hr, hz, hl, p0, p1⟩ := h
  exact ⟨h0, A, zs, c, p, hx.below hb (by omega), hr.below (hb.mono (by omega)), hz, hl, p0, p1⟩
theorem Tape.call (h : Tape w B R N) (hb : Below w.heap.size w w') : Tape w' B R N := h.below (hb.mono h.lt)
end
theorem xor_i64 (a b : Nat) (ha : a < 9223372036854775808) (hb : b < 9223372036854775808) : bits .xor .i64 (a : Int) (b : Int) = ((a ^^^ b : Nat) : Int) ∧ a ^^^ b < 9223372036854775808 := by
  have hx : a ^^^ b < 2 ^ 63 := Nat.xor_lt_two_pow (by omega) (by omega)
  refine ⟨?_, by omega⟩
  show IntKind.i64.wrap ((BitVec.ofInt 64 (a : Int) ^^^ BitVec.ofInt 64 (b : Int)).toNat : Int) = _
  rw [BitVec.toNat_xor, ofInt_i64 a ha, ofInt_i64 b hb, IntKind.wrap_i64]
  omega
def Picked (w : World) (B R : Nat) (N : Int) (n : Int) (e : Ending) (w' : World) : Prop := ∃ x : Int, e = .returned (.int .i64 x) ∧ 0 ≤ x ∧ x < n ∧ Tape w' B R (N + 1) ∧ w.grownBy w' (some R)
theorem pick_any {w : World} {B R : Nat} {N : Int} (hT : Tape w B R N) (hN : N ≤ 1099511627776) (n : Int) (hn : 1 ≤ n) (hn' : n ≤ 1099511627776) :
    Calls Try.prog 86 #[.pointer (some ⟨R, 0, none⟩), .int .i64 n] w (Picked w B R N n) := by
  obtain ⟨h0, A, zs, c, p, hx, hr, hz, hl, p0, p1⟩ := hT
  have q0 := hx.cell 0
  have q1 := hx.cell 1
  have f0 := hx.frozen 0
  have f1 := hx.frozen 1
  simp only [List.getElem?_toArray, List.getElem?_cons_zero, List.getElem?_cons_succ] at q0 q1
  have HX := hide hx
  clear hx
  have HR := hide hr
  have HZ := hide hz
  clear hr hz
  have hfin : ∀ (x : Int) (w' : World), 0 ≤ x → x < n → w'.heap = (w.setCell ⟨R, 1, none⟩ (.int .i64 (p + 1))).heap → w'.os = w.os → w'.tape = w.tape → w'.output = w.output → Picked w B R N n (.returned (.int .i64 x)) w' := by
    intro x w' x0 x1 hh ho ht hu
    have hk : ∀ k, k ≠ R → w'.heap[k]? = w.heap[k]? := fun k hk => by rw [hh]; exact Below.heap_setCell w ⟨R, 1, none⟩ _ k hk
    refine ⟨x, rfl, x0, x1, ⟨h0, A, zs, c, p + 1, ?_, HR.out.keep (fun a ha => World.cell?_of_block (hk _ (by omega))), HZ.out, hl, by omega, by omega⟩, ho, ht, hu, by rw [hh]; simp [World.setCell], fun k _ hne => hk k (fun e => hne (by rw [e]))⟩
    have := HX.out.set 1 (.int .i64 (p + 1))
    unfold Box at this ⊢
    rw [hh]
    exact this
  have HF := hide hfin
  clear hfin
  have hd : decide (n < 1) = false := by simp; omega
  by_cases hz0 : zs.length = 0
  · go_enter Try.func86, Try.ntmps86
    go_wp2_with fail
    all_goals (go_ret; exact HF.out 0 _ (by omega) (by omega) rfl rfl rfl rfl)
  · by_cases hk : p < zs.length
    · obtain ⟨k, rfl⟩ := Int.eq_ofNat_of_zero_le p0
      obtain ⟨b, off, rfl, hbb, hc⟩ := HR.out.int (i := k) (by omega)
      obtain ⟨x0, x1⟩ := HZ.out.at_ (i := k) (by omega)
      generalize zs[k] = x at *
      have hbR : b ≠ R := by omega
      go_enter Try.func86, Try.ntmps86
      go_wp2_with fail
      all_goals (go_ret; exact HF.out (x % n) _ (Int.emod_nonneg _ (by omega)) (Int.emod_lt_of_pos _ (by omega)) rfl rfl rfl rfl)
    · obtain ⟨i1, e1⟩ := Int.eq_ofNat_of_zero_le (Int.emod_nonneg p (show (zs.length : Int) ≠ 0 by omega))
      obtain ⟨i2, e2⟩ := Int.eq_ofNat_of_zero_le (Int.emod_nonneg (p * 7 + 3) (show (zs.length : Int) ≠ 0 by omega))
      have l1 := Int.emod_lt_of_pos p (show 0 < (zs.length : Int) by omega)
      have l2 := Int.emod_lt_of_pos (p * 7 + 3) (show 0 < (zs.length : Int) by omega)
      rw [e1] at l1
      rw [e2] at l2
      have d0 : 0 ≤ p / (zs.length : Int) := Int.ediv_nonneg p0 (by omega)
      have d1 : p / (zs.length : Int) ≤ p := Int.ediv_le_self _ p0
      generalize hdv : p / (zs.length : Int) = dv at *
      obtain ⟨b, off, rfl, hbb, hc1⟩ := HR.out.int (i := i1) (by omega)
      obtain ⟨b', off', e', _, hc2⟩ := HR.out.int (i := i2) (by omega)
      simp only [Option.some.injEq, Addr.mk.injEq, and_true] at e'
      obtain ⟨rfl, rfl⟩ := e'
      obtain ⟨x0, x1⟩ := HZ.out.at_ (i := i1) (by omega)
      obtain ⟨y0, y1⟩ := HZ.out.at_ (i := i2) (by omega)
      generalize zs[i1] = x at *
      generalize zs[i2] = y at *
      have hbR : b ≠ R := by omega
      go_enter Try.func86, Try.ntmps86
      go_wp2_with fail
      go_quiet (fail)
      obtain ⟨X, hX⟩ := Int.eq_ofNat_of_zero_le (show 0 ≤ x * 131 + y * 1117 + p * 29 + dv * 53 by omega)
      have hXb : (X : Int) ≤ 1125899906842624 := by omega
      rw [hX]
      obtain ⟨M, hM⟩ : ∃ M : Nat, X ^^^ (X / 64) = M := ⟨_, rfl⟩
      obtain ⟨hx1, hx2⟩ := xor_i64 X (X / 64) (by omega) (by omega)
      rw [hM] at hx1 hx2
      have hx1 : bits .xor .i64 (X : Int) ((X : Int) / 64) = (M : Int) := hx1
      have hMb : (M : Int) ≤ 9223372036854775807 := by omega
      clear hX hM hx2 e1 e2 l1 l2 hdv d0 d1 hc1 hc2 hk
      go_wp2_with fail
      all_goals (go_ret; exact HF.out _ _ (Int.emod_nonneg _ (by omega)) (Int.emod_lt_of_pos _ (by omega)) rfl rfl rfl rfl)
theorem odd_any {w : World} {B R : Nat} {N : Int} (hT : Tape w B R N) (hN : N ≤ 1099511627776) (n : Int) (hn : 0 ≤ n) (hn' : n ≤ 1099511627776) :
    Calls Try.prog 105 #[.pointer (some ⟨R, 0, none⟩), .int .i64 n] w fun e w' => ∃ b : Bool, e = .returned (.bool b) ∧ Tape w' B R (N + 1) ∧ w.grownBy w' (some R) := by
  by_cases h0 : n = 0
  · subst h0
    go_enter Try.func105, Try.ntmps105
    go_wp2_with fail
    go_ret
    exact ⟨false, rfl, hT.more (by omega), grown_refl _ _⟩
  · have h1 : 0 < n := by omega
    go_enter Try.func105, Try.ntmps105
    go_wp2_with fail
    refine (pick_any hT hN n (by omega) hn').mono ?_
    rintro e w1 ⟨x, rfl, x0, x1, T1, g1⟩
    have HT := hide (And.intro T1 g1)
    clear T1 g1 hT
    go_wp2_with fail
    go_ret
    exact ⟨_, rfl, HT.out.1, HT.out.2⟩
/-- What a draw's opening hands back: a new reader. -/
theorem open_any (A : Option Addr) (zs : List Int) (c : Nat) (w : World) (hr : Rd w w.heap.size A (ints .u8 zs)) (hz : InR 0 255 zs) (hc : zs.length ≤ c) (hcm : c ≤ maxLen) :
    Calls Try.prog 41 #[.slice A zs.length c] w fun e w' => ∃ R, e = .returned (.pointer (some ⟨R, 0, none⟩)) ∧ Tape w' w.heap.size R 0 ∧ Below w.heap.size w w' := by
  unfold maxLen at hcm
  by_cases h : 2000 < zs.length
  · obtain ⟨b, off, rfl, _, _⟩ := hr.int (i := 0) (by omega)
    obtain ⟨hr', hl'⟩ := hr.slice 0 2000 (by omega)
    simp only [Nat.add_zero, List.drop_zero] at hr' hl'
    have HH := hide (And.intro hr' hl')
    have HZ := hide (show InR 0 255 (zs.take 2000) from fun x hx => hz x (List.mem_of_mem_take hx))
    clear hr hr' hl' hz
    go_enter Try.func41, Try.ntmps41
    go_wp2_with fail
    go_ret
    have hlen : (zs.take 2000).length = 2000 := by rw [List.length_take]; omega
    have hbx := Box.new w 129 #[.slice (some ⟨b, off, none⟩) 2000 c, .int .i64 0]
    have hbl : Below w.heap.size w (w.alloc (.cells #[.slice (some ⟨b, off, none⟩) 2000 c, .int .i64 0] 129)) := (by repeat (first | exact Below.refl _ _ | with_reducible assumption | (refine Below.drew ?_) | (refine Below.drewN ?_ _) | (refine Below.alloc ?_ (by simp; try omega) _) | (refine Below.setCell ?_ (by simp; try omega) _)))
    exact ⟨w.heap.size, rfl, ⟨Nat.le_refl _, _, zs.take 2000, c, 0, by rw [hlen]; exact hbx, HH.out.1.below hbl, HZ.out, by omega, by omega, by omega⟩, hbl⟩
  · have HR := hide hr
    have HZ := hide hz
    clear hr hz
    go_enter Try.func41, Try.ntmps41
    go_wp2_with fail
    go_ret
    have hbl : Below w.heap.size w (w.alloc (.cells #[.slice A zs.length c, .int .i64 0] 129)) := (by repeat (first | exact Below.refl _ _ | with_reducible assumption | (refine Below.drew ?_) | (refine Below.drewN ?_ _) | (refine Below.alloc ?_ (by simp; try omega) _) | (refine Below.setCell ?_ (by simp; try omega) _)))
    exact ⟨w.heap.size, rfl, ⟨Nat.le_refl _, _, zs, c, 0, Box.new _ _ _, HR.out.below hbl, HZ.out, by omega, by omega, by omega⟩, hbl⟩
end Go.Proofs.Ytmglgjchemecjaa.DPick
/- The reader and the world it was opened in; draws of numbers. -/
namespace Go.Proofs.Ytmglgjchemecjaa.DVar
set_option maxRecDepth 200000
open Go.ChangeShapes Go.WideShapes Go.ChangeAt Go.RowKit Kit DPick
/-- The reader stands at w, and from w0 on nothing but its block has turned. -/
def Tp (w0 w : World) (B R : Nat) (N : Int) : Prop := DPick.Tape w B R N ∧ w0.grownBy w (some R)
section
variable {w0 w w' : World} {B R : Nat} {N : Int}
theorem Tp.start (h : DPick.Tape w B R N) : Tp w w B R N := ⟨h, grown_refl _ _⟩
theorem Tp.call (h : Tp w0 w B R N) (hb : Below w.heap.size w w') : Tp w0 w' B R N := ⟨h.1.call hb, grown_below h.2 hb⟩
theorem Tp.alloc (h : Tp w0 w B R N) (o : Obj) : Tp w0 (w.alloc o) B R N := h.call ((Below.refl _ _).alloc (Nat.le_refl _) o)
theorem Tp.drewN (h : Tp w0 w B R N) (n : Nat) : Tp w0 (w.drewN n) B R N := h.call (Kit.Below.drewN (Below.refl _ _) n)
theorem Tp.drew (h : Tp w0 w B R N) : Tp w0 w.drew B R N := h.call ((Below.refl _ _).drew)
theorem Tp.drawn {d : Nat} (h : Tp w0 w B R N) : Tp w0 { heap := w.heap, tape := w.tape, drawn := d, os := w.os, output := w.output } B R N := h.call ⟨rfl, rfl, rfl, Nat.le_refl _, fun _ _ => rfl⟩
theorem Tp.more (h : Tp w0 w B R N) {N' : Int} (hN : N ≤ N') : Tp w0 w B R N' := ⟨h.1.more hN, h.2⟩
theorem Tp.below {B' : Nat} (h : Tp w0 w B R N) (hB : B' ≤ w0.heap.size) (hR : B' ≤ R) : Below B' w0 w := below_of_grown (Below.refl _ _) h.2 hB hR
theorem pick_tp (h : Tp w0 w B R N) (hN : N ≤ 1099511627776) (n : Int) (hn : 1 ≤ n) (hn' : n ≤ 1099511627776) :
    Calls Try.prog 86 #[.pointer (some ⟨R, 0, none⟩), .int .i64 n] w fun e w' => ∃ x : Int, e = .returned (.int .i64 x) ∧ 0 ≤ x ∧ x < n ∧ Tp w0 w' B R (N + 1) ∧ w.grownBy w' (some R) := by
  refine (pick_any h.1 hN n hn hn').mono ?_
  rintro e w' ⟨x, he, x0, x1, T, g⟩
  exact ⟨x, he, x0, x1, ⟨T, grown_trans h.2 g⟩, g⟩
theorem odd_tp (h : Tp w0 w B R N) (hN : N ≤ 1099511627776) (n : Int) (hn : 0 ≤ n) (hn' : n ≤ 1099511627776) :
    Calls Try.prog 105 #[.pointer (some ⟨R, 0, none⟩), .int .i64 n] w fun e w' => ∃ b : Bool, e = .returned (.bool b) ∧ Tp w0 w' B R (N + 1) ∧ w.grownBy w' (some R) := by
  refine (odd_any h.1 hN n hn hn').mono ?_
  rintro e w' ⟨x, he, T, g⟩
  exact ⟨x, he, ⟨T, grown_trans h.2 g⟩, g⟩
end
def DrewInt (w0 : World) (B R : Nat) (N : Int) (lo hi : Int) (e : Ending) (w' : World) : Prop := ∃ x : Int, e = .returned (.int .i64 x) ∧ lo ≤ x ∧ x ≤ hi ∧ Tp w0 w' B R N
theorem Tp.set {w0 w : World} {B R : Nat} {N : Int} (h : Tp w0 w B R N) {a : Addr} (ha : w0.heap.size ≤ a.block) (hR : R < a.block) (u : Value) : Tp w0 (w.setCell a u) B R N := by
  refine ⟨?_, ⟨h.2.os, h.2.tape, h.2.output, by simpa [World.setCell] using h.2.size, fun k hk hne => (Below.heap_setCell w a u k (by omega)).trans (h.2.block k hk hne)⟩⟩
  obtain ⟨h0, A, zs, c, p, hb, hr, hz, hl, p0, p1⟩ := h.1
  exact ⟨h0, A, zs, c, p, hb.far (by omega) u, hr.keep (fun x hx => World.cell?_of_block (Below.heap_setCell w a u _ (by omega))), hz, hl, p0, p1⟩
theorem Tp.own {w0 w w' : World} {B R : Nat} {N : Int} (h : Tp w0 w B R N) {v : Option Nat} (g : w.grownBy w' v) (hv : ∀ k, v = some k → w0.heap.size ≤ k ∧ R < k) : Tp w0 w' B R N := by
  refine ⟨?_, grown_own h.2 g (fun k hk => (hv k hk).1)⟩
  obtain ⟨h0, A, zs, c, p, hb, hr, hz, hl, p0, p1⟩ := h.1
  have hk : ∀ k, k < R + 1 → w'.heap[k]? = w.heap[k]? := fun k hk => g.block k (Nat.lt_of_lt_of_le hk hb.lt) (fun e => by have := (hv k e.symm).2; omega)
  exact ⟨h0, A, zs, c, p, (hk R (by omega)).trans hb, hr.keep (fun x hx => World.cell?_of_block (hk _ (by omega))), hz, hl, p0, p1⟩
theorem own_pick {w w' : World} {base : Nat} {e : TypeId} {size n : Nat} {v : Value} {xs : List Value} {R : Nat} (h : w.ownsRow base e size v n xs) (g : w.grownBy w' (some R)) (hR : R < base) : w'.ownsRow base e size v n xs :=
  own_keep h fun k hk => g.block k (h.lt k hk).2 (fun e => by injection e with e; have := (h.lt k hk).1; omega)
theorem Tp.lt {w0 w : World} {B R : Nat} {N : Int} (h : Tp w0 w B R N) : R < w.heap.size := h.1.lt
/-- A cell of a literal that was laid just before a number was drawn. -/
theorem lit_at {w1 w2 : World} {cs : Array Value} {t : TypeId} {R : Nat} {k : IntKind} (g : (w1.alloc (.cells cs t)).grownBy w2 (some R)) (hR : R < w1.heap.size) {i : Int} (h0 : 0 ≤ i) (h1 : i < cs.size) (hb : ∀ v ∈ cs.toList, ∃ z, v = Value.int k z) :
    ∃ z, Value.int k z ∈ cs.toList ∧ w2.cell? ⟨w1.heap.size, i.toNat, none⟩ = some (.int k z) := by
  have hx : Box w2 w1.heap.size t cs := (Box.new w1 t cs).grown g (fun k hk => by injection hk with hk; omega)
  have hi' : i.toNat < cs.size := by omega
  obtain ⟨z, hz⟩ := hb (cs[i.toNat]'hi') (by simp)
  refine ⟨z, by rw [← hz]; simp, ?_⟩
  rw [hx.cell, Array.getElem?_eq_getElem hi', hz]
theorem pick_lit {w0 w1 : World} {B R : Nat} {N : Int} {cs : Array Value} {t : TypeId} {k : IntKind} (h : Tp w0 w1 B R N) (hN : N ≤ 1099511627776) (n : Int) (hn : 1 ≤ n) (hn' : n ≤ 1099511627776) (hb : ∀ v ∈ cs.toList, ∃ z, v = Value.int k z) (hs : n ≤ cs.size) :
    Calls Try.prog 86 #[.pointer (some ⟨R, 0, none⟩), .int .i64 n] (w1.alloc (.cells cs t)) fun e w' => ∃ x : Int, e = .returned (.int .i64 x) ∧ 0 ≤ x ∧ x < n ∧ Tp w0 w' B R (N + 1) ∧ (w1.alloc (.cells cs t)).grownBy w' (some R) ∧
      ∃ z, Value.int k z ∈ cs.toList ∧ w'.cell? ⟨w1.heap.size, x.toNat, none⟩ = some (.int k z) := by
  refine (pick_tp (h.alloc (.cells cs t)) hN n hn hn').mono ?_
  rintro e w' ⟨x, he, x0, x1, T, g⟩
  exact ⟨x, he, x0, x1, T, g, lit_at g h.lt x0 (by omega) hb⟩
/-- The same where a table of places was laid behind the literal: the number drawn picks a place, the place a cell. -/
theorem pick_lit2 {w0 w1 : World} {B R : Nat} {N : Int} {cs cs2 : Array Value} {t t2 : TypeId} {k : IntKind} (h : Tp w0 w1 B R N) (hN : N ≤ 1099511627776) (n : Int) (hn : 1 ≤ n) (hn' : n ≤ 1099511627776) (hb : ∀ v ∈ cs.toList, ∃ z, v = Value.int k z) (hb2 : ∀ v ∈ cs2.toList, ∃ z, v = Value.int .i64 z ∧ 0 ≤ z ∧ z < cs.size) (hs : n ≤ cs2.size) :
    Calls Try.prog 86 #[.pointer (some ⟨R, 0, none⟩), .int .i64 n] ((w1.alloc (.cells cs t)).alloc (.cells cs2 t2)) fun e w' => ∃ x : Int, e = .returned (.int .i64 x) ∧ 0 ≤ x ∧ x < n ∧ Tp w0 w' B R (N + 1) ∧ ((w1.alloc (.cells cs t)).alloc (.cells cs2 t2)).grownBy w' (some R) ∧
      ∃ z y, Value.int .i64 z ∈ cs2.toList ∧ w'.cell? ⟨w1.heap.size + 1, x.toNat, none⟩ = some (.int .i64 z) ∧ 0 ≤ z ∧ z < cs.size ∧ Value.int k y ∈ cs.toList ∧ w'.cell? ⟨w1.heap.size, z.toNat, none⟩ = some (.int k y) := by
  have hb3 : ∀ v ∈ cs2.toList, ∃ z, v = Value.int .i64 z := fun v hv => by
    obtain ⟨z, hz, _⟩ := hb2 v hv
    exact ⟨z, hz⟩
  refine (pick_lit (h.alloc (.cells cs t)) hN n hn hn' hb3 hs).mono ?_
  rintro e w' ⟨x, he, x0, x1, T, g, z, hm, hz⟩
  obtain ⟨z', hz', z0, z1⟩ := hb2 _ hm
  obtain rfl : z = z' := by injection hz'
  have hsz : (w1.alloc (.cells cs t)).heap.size = w1.heap.size + 1 := by simp
  rw [hsz] at hz
  have hx : Box w' w1.heap.size t cs := ((Box.new w1 t cs).alloc _).grown g (fun k hk => by injection hk with hk; have := h.lt; omega)
  have hi' : z.toNat < cs.size := by omega
  obtain ⟨y, hy⟩ := hb (cs[z.toNat]'hi') (by simp)
  refine ⟨x, he, x0, x1, T, g, z, y, hm, hz, z0, z1, by rw [← hy]; simp, ?_⟩
  rw [hx.cell, Array.getElem?_eq_getElem hi', hy]
end Go.Proofs.Ytmglgjchemecjaa.DVar
/- The draw of a name. -/
namespace Go.Proofs.Ytmglgjchemecjaa.DName
set_option maxRecDepth 200000
open Go.ChangeShapes Go.WideShapes Go.ChangeAt Go.RowKit Kit DPick DVar
/-- A cell of a literal that was laid just before a number was drawn, told by what all its cells are. -/
theorem pick_litP {p : Value → Prop} {w0 w1 : World} {B R : Nat} {N : Int} {cs : Array Value} {t : TypeId} (h : Tp w0 w1 B R N) (hN : N ≤ 1099511627776) (n : Int) (hn : 1 ≤ n) (hn' : n ≤ 1099511627776) (hb : ∀ v ∈ cs.toList, p v) (hs : n ≤ cs.size) :
    Calls Try.prog 86 #[.pointer (some ⟨R, 0, none⟩), .int .i64 n] (w1.alloc (.cells cs t)) fun e w' => ∃ x : Int, e = .returned (.int .i64 x) ∧ 0 ≤ x ∧ x < n ∧ Tp w0 w' B R (N + 1) ∧ (w1.alloc (.cells cs t)).grownBy w' (some R) ∧
      ∃ v, p v ∧ w'.cell? ⟨w1.heap.size, x.toNat, none⟩ = some v := by
  refine (pick_tp (h.alloc (.cells cs t)) hN n hn hn').mono ?_
  rintro e w' ⟨x, he, x0, x1, T, g⟩
  have hx : Box w' w1.heap.size t cs := (Box.new w1 t cs).grown g (fun k hk => by injection hk with hk; have := h.lt; omega)
  have hi' : x.toNat < cs.size := by omega
  refine ⟨x, he, x0, x1, T, g, cs[x.toNat]'hi', hb _ (by simp), ?_⟩
  rw [hx.cell, Array.getElem?_eq_getElem hi']
theorem odd_zero {w : World} {R : Nat} : Calls Try.prog 105 #[.pointer (some ⟨R, 0, none⟩), .int .i64 0] w (Pure (.bool false) w) := by
  go_enter Try.func105, Try.ntmps105
  go_wp2_with fail
  go_ret
  exact ⟨rfl, rfl⟩
def IsName (v : Value) : Prop := ∃ s : ByteArray, v = .string s ∧ 0 < s.size ∧ s.size ≤ 9
def IsText (v : Value) : Prop := ∃ s : ByteArray, v = .string s ∧ s.size ≤ 9
def DrewText (w0 w : World) (B R : Nat) (N : Int) (lo : Nat) (e : Ending) (w' : World) : Prop := ∃ s : ByteArray, e = .returned (.string s) ∧ lo ≤ s.size ∧ s.size ≤ 9 ∧ Tp w0 w' B R N ∧ w.grownBy w' (some R)
theorem grown_lit {w w1 w2 : World} {o : Obj} {R : Nat} (g1 : w.grownBy w1 (some R)) (g2 : (w1.alloc o).grownBy w2 (some R)) : w.grownBy w2 (some R) := grown_trans (grown_alloc g1 o) g2
theorem name_any {w0 w : World} {B R : Nat} {N : Int} (T : Tp w0 w B R N) (hN : N ≤ 1000000) (n : Int) (hn : 0 ≤ n) (hn' : n ≤ 1000) :
    Calls Try.prog 162 #[.pointer (some ⟨R, 0, none⟩), .int .i64 n] w (DrewText w0 w B R (N + 2) 0) := by
  go_enter Try.func162, Try.ntmps162
  go_wp2_with fail
  refine (odd_tp (by first | with_reducible assumption | exact Tp.alloc (by with_reducible assumption) _ | exact Tp.alloc (Tp.alloc (by with_reducible assumption) _) _ | exact Tp.drewN (by with_reducible assumption) _ | exact Tp.drew (by with_reducible assumption) | exact Tp.drawn (by with_reducible assumption) | exact Tp.alloc (Tp.drewN (by with_reducible assumption) _) _ | exact Tp.alloc (Tp.drew (by with_reducible assumption)) _ | exact Tp.alloc (Tp.alloc (Tp.alloc (by with_reducible assumption) _) _) _) (by omega) _ (by omega) (by omega)).mono ?_
  rintro e w1 ⟨bo, rfl, T1, g1⟩
  clear T
  cases bo
  · go_wp2_with fail
    refine (pick_litP (p := IsText) T1 (by omega) _ (by omega) (by omega) (by repeat (first | exact List.forall_mem_nil _ | refine List.forall_mem_cons.2 ⟨⟨_, rfl, by decide⟩, ?_⟩)) (by simp)).mono ?_
    rintro e w2 ⟨x, rfl, x0, x1, T2, g2, v, ⟨s, rfl, s1⟩, hv⟩
    have HG := hide (grown_lit g1 g2)
    clear g1 g2 T1
    go_wp2_with fail
    go_ret
    exact ⟨s, rfl, Nat.zero_le _, s1, T2.more (by omega), HG.out⟩
  · go_wp2_with fail
    refine (pick_litP (p := IsText) T1 (by omega) _ (by omega) (by omega) (by repeat (first | exact List.forall_mem_nil _ | refine List.forall_mem_cons.2 ⟨⟨_, rfl, by decide⟩, ?_⟩)) (by simp)).mono ?_
    rintro e w2 ⟨x, rfl, x0, x1, T2, g2, v, ⟨s, rfl, s1⟩, hv⟩
    have HG := hide (grown_lit g1 g2)
    clear g1 g2 T1
    go_wp2_with fail
    go_ret
    exact ⟨s, rfl, Nat.zero_le _, s1, T2.more (by omega), HG.out⟩
theorem name_ok {w0 w : World} {B R : Nat} {N : Int} (T : Tp w0 w B R N) (hN : N ≤ 1000000) :
    Calls Try.prog 162 #[.pointer (some ⟨R, 0, none⟩), .int .i64 0] w (DrewText w0 w B R (N + 2) 1) := by
  go_enter Try.func162, Try.ntmps162
  go_wp2_with fail
  refine odd_zero.mono ?_
  rintro e w' ⟨rfl, rfl⟩
  go_wp2_with fail
  refine (pick_litP (p := IsName) T (by omega) _ (by omega) (by omega) (by repeat (first | exact List.forall_mem_nil _ | refine List.forall_mem_cons.2 ⟨⟨_, rfl, by decide, by decide⟩, ?_⟩)) (by simp)).mono ?_
  rintro e w2 ⟨x, rfl, x0, x1, T2, g2, v, ⟨s, rfl, s0, s1⟩, hv⟩
  have HG := hide (grown_lit (grown_refl w (some R)) g2)
  clear g2 T
  go_wp2_with fail
  go_ret
  exact ⟨s, rfl, s0, s1, T2.more (by omega), HG.out⟩
end Go.Proofs.Ytmglgjchemecjaa.DName
/- The draw of bytes. -/
namespace Go.Proofs.Ytmglgjchemecjaa.DBytes
set_option maxRecDepth 200000
open Go.ChangeShapes Go.WideShapes Go.ChangeAt Go.RowKit Kit DPick DVar
theorem info8 : (Try.prog.info? 5).map (fun i => (i.zero, i.size, i.bytes)) = some (some (.int .u8 0), 1, 1) := by kernel_rfl
def DrewBytes (w0 w : World) (B R : Nat) (N : Int) (most : Nat) (e : Ending) (w' : World) : Prop := ∃ (A : Option Addr) (zs : List Int) (c : Nat), e = .returned (.slice A zs.length c) ∧ zs.length ≤ most ∧ InR 0 255 zs ∧ w'.ownsRow w.heap.size 5 1 (.slice A zs.length c) zs.length (ints .u8 zs) ∧ Tp w0 w' B R N
theorem bytes_any {w0 w : World} {B R : Nat} {N : Int} (T : Tp w0 w B R N) (hN : N ≤ 1000000) (hN0 : 0 ≤ N) (most : Nat) (hm : most ≤ 1000) :
    Calls Try.prog 163 #[.pointer (some ⟨R, 0, none⟩), .int .i64 most] w (DrewBytes w0 w B R (N + 2 * most + 1) most) := by
  obtain ⟨i0, hi, hz0, hz1, hz2⟩ := info_parts info8
  have hR := T.lt
  have hw0 := T.2.size
  have HO := hide (own_empty (w := w) (E := 5))
  go_enter Try.func163, Try.ntmps163
  go_wp2_with fail
  refine (pick_tp (by first | with_reducible assumption | exact Tp.alloc (by with_reducible assumption) _ | exact Tp.alloc (Tp.alloc (by with_reducible assumption) _) _ | exact Tp.drewN (by with_reducible assumption) _ | exact Tp.drew (by with_reducible assumption) | exact Tp.drawn (by with_reducible assumption) | exact Tp.alloc (Tp.drewN (by with_reducible assumption) _) _ | exact Tp.alloc (Tp.drew (by with_reducible assumption)) _ | exact Tp.alloc (Tp.alloc (Tp.alloc (by with_reducible assumption) _) _) _) (by omega) _ (by omega) (by omega)).mono ?_
  rintro e w1 ⟨x, rfl, x0, x1, T1, g1⟩
  have HO1 := hide (own_pick HO.out g1 hR)
  have HT1 := hide T1
  obtain ⟨j, rfl⟩ := Int.eq_ofNat_of_zero_le x0
  have hsz1 : w.heap.size ≤ w1.heap.size := by have h1 := g1.size; simp at h1; omega
  clear T T1 g1 HO
  go_wp2_with fail
  go_loopw [5, 6] (fun o k wr => ∃ (i : Nat) (A' : Option Addr) (l c' : Nat) (zs : List Int), k = .int .i64 i ∧ o = .slice A' l c' ∧ l = zs.length ∧ l + i ≤ most ∧ InR 0 255 zs ∧ wr.ownsRow w.heap.size 5 1 (.slice A' l c') l (ints .u8 zs) ∧ Tp w0 wr B R (N + 2 * (most - i : Int) + 1) ∧ w.heap.size ≤ wr.heap.size) (fun _ k _ => (intOf k).toNat)
  case atStart => exact ⟨j, _, 0, _, [], rfl, rfl, rfl, by omega, fun x hx => by simp at hx, HO1.out, HT1.out.more (by omega), hsz1⟩
  case round =>
    obtain ⟨i, A', l, c', zs, rfl, rfl, hl, hli, hzs, ho, T, hszr⟩ := hrel
    have HL := hide hl
    have HZ := hide hzs
    have HO := hide ho
    clear hl hzs ho HO1 HT1
    by_cases h0 : 0 < i
    · go_wp2_with fail
      refine (pick_tp (by first | with_reducible assumption | exact Tp.alloc (by with_reducible assumption) _ | exact Tp.alloc (Tp.alloc (by with_reducible assumption) _) _ | exact Tp.drewN (by with_reducible assumption) _ | exact Tp.drew (by with_reducible assumption) | exact Tp.drawn (by with_reducible assumption) | exact Tp.alloc (Tp.drewN (by with_reducible assumption) _) _ | exact Tp.alloc (Tp.drew (by with_reducible assumption)) _ | exact Tp.alloc (Tp.alloc (Tp.alloc (by with_reducible assumption) _) _) _) (by omega) _ (by omega) (by omega)).mono ?_
      rintro e w2 ⟨y, rfl, y0, y1, T2, g2⟩
      have HO2 := hide (own_pick HO.out g2 hR)
      have g2s := g2.size
      clear T g2 HO
      go_wp2_with fail
      refine (pick_lit T2 (by omega) _ (by omega) (by omega) (by repeat (first | exact List.forall_mem_nil _ | refine List.forall_mem_cons.2 ⟨⟨_, rfl⟩, ?_⟩)) (by simp)).mono ?_
      rintro e w3 ⟨v, rfl, v0, v1, T3, g3, z, hm, hz⟩
      simp only [List.mem_cons, Value.int.injEq, true_and, List.not_mem_nil, or_false] at hm
      have hzb : 0 ≤ z ∧ z ≤ 255 := by omega
      have HO3 := hide (own_pick (HO2.out.alloc _) g3 hR)
      have HT3 := hide T3
      have hsz3 : w.heap.size ≤ w3.heap.size := by have h1 := g3.size; have h2 := hszr; have h3 := g2s; simp at h1; omega
      clear T2 g3 HO2 hm T3
      go_wp2_with (at_builtin; refine wpList_app1 w3 rfl (.tmp 16) (.tmp 25) 22 rfl w.heap.size 5 i0 (.int .u8 0) 1 1 Try.underlying22 hi hz0 hz1 hz2 rfl (by decide) _ rfl rfl ?o1 _ _ _ rfl HO3.out ?n1 ?n2 ?n3 ?_)
      case o1 => first | rfl | (simp; done) | (intro u hu; simp at hu; subst hu; rfl)
      case n1 => unfold maxLen; omega
      case n2 => omega
      case n3 => exact hsz3
      intro A4 n4 c4 w4 hn4 o4 g4
      subst hn4
      have T4 := HT3.out.own g4 (fun k hk => ⟨Nat.le_trans hw0 (HO3.out.lt k hk).1, Nat.lt_of_lt_of_le hR (HO3.out.lt k hk).1⟩)
      have HO4 := hide o4
      have HT4 := hide T4
      have hsz4 := Nat.le_trans hsz3 g4.size
      clear o4 g4 T4 HO3 HT3 hz
      go_wp2_with fail
      refine ⟨⟨i - 1, A4, l + 1, c4, zs ++ [z], by go_num, rfl, by rw [HL.out]; simp, by omega, ?_, by simpa using HO4.out, HT4.out.more (by omega), hsz4⟩, by simp [intOf]; omega⟩
      intro a ha
      rcases List.mem_append.1 ha with ha | ha
      · exact HZ.out a ha
      · simp at ha; omega
    · have e : i = 0 := by omega
      subst e
      have hl := HL.out
      subst hl
      go_wp2_with fail
      go_ret
      exact ⟨A', zs, c', rfl, by omega, HZ.out, HO.out, T.more (by omega)⟩
end Go.Proofs.Ytmglgjchemecjaa.DBytes
/- A region that draws its order, taken operation by operation: each load under a condition of its own, which all that may come before it keep. -/
namespace Go.Proofs.Ytmglgjchemecjaa.Rw
set_option maxRecDepth 200000
open Go Reg Rv
section
variable {P : Program} {ops : Array Oper} {Q : Exit → Act → World → Prop} {md : Region.Mode} {Ob : Nat → World → World → Prop}
/-- Whatever order is picked from here on; every operation that is carried out keeps what Ob asks of it. -/
def wpAnyW (P : Program) (md : Region.Mode) (ops : Array Oper) (Q : Exit → Act → World → Prop) (Ob : Nat → World → World → Prop) : Nat → Array Bool → Act → World → Prop
  | 0, listed, a, w => Region.ready md ops listed = [] ∧ Q .normal a w
  | fuel + 1, listed, a, w =>
    (Region.ready md ops listed = [] → Q .normal a w) ∧
    ∀ i ∈ Region.ready md ops listed, wpOp P ops Q i (fun a' w' => Ob i w w' ∧ wpAnyW P md ops Q Ob fuel (listed.setIfInBounds i true) a' w') a w
theorem wpAny_of_W : ∀ (fuel : Nat) (listed : Array Bool) (a : Act) (w : World), wpAnyW P md ops Q Ob fuel listed a w → wpAny P md ops Q fuel listed a w
  | 0, _, _, _, h => h
  | fuel + 1, _, _, _, h => ⟨h.1, fun i hi => wpOp_mono (fun a' w' h' => wpAny_of_W fuel _ a' w' h'.2) (h.2 i hi)⟩
theorem weaker {Ob' : Nat → World → World → Prop} (h : ∀ j w w', Ob' j w w' → Ob j w w') : ∀ (fuel : Nat) (listed : Array Bool) (a : Act) (w : World), wpAnyW P md ops Q Ob' fuel listed a w → wpAnyW P md ops Q Ob fuel listed a w
  | 0, _, _, _, H => H
  | fuel + 1, _, _, _, H => ⟨H.1, fun i hi => wpOp_mono (fun a' w' h' => ⟨h i _ w' h'.1, weaker h fuel _ a' w' h'.2⟩) (H.2 i hi)⟩
/-- What a load adds to what is asked. -/
def Plus (Ob : Nat → World → World → Prop) (C : List Nat) (R : World → Prop) (j : Nat) (w w' : World) : Prop := Ob j w w' ∧ (C.contains j = false → R w → R w')
theorem first {i : Nat} {oi : Oper} {v : Value} {C : List Nat} {R : World → Prop} (hi : ops[i]? = some oi) (hsel : ∀ (j : Nat) (o : Oper) cs b, ops[j]? = some o → o.op ≠ .select cs b)
    (hQ : ∀ c a w, Q (.panic c) (a.put oi.dst v) w → Q (.panic c) a w) (hre : ∀ j w, Ob j w w) :
    ∀ (fuel : Nat) (listed : Array Bool) (a : Act) (w : World),
      (∀ j ∈ C, j ≠ i ∧ listed.getD j true = false ∧ ∃ o, ops[j]? = some o ∧ ∃ e ∈ o.after, Region.binds md e = true ∧ (e.on = i ∨ e.on ∈ C)) →
      (∀ j oj, ops[j]? = some oj → j ≠ i → listed.getD j true = false → (∀ e ∈ oj.after, Region.binds md e = true → e.on ≠ i) → oi.apart ops oj = true) →
      i ∈ Region.ready md ops listed → YieldsIf P ops R oi v a → R w →
      wpAnyW P md ops Q (Plus Ob C R) fuel (listed.setIfInBounds i true) (a.put oi.dst v) w → wpAnyW P md ops Q Ob (fuel + 1) listed a w := by
  intro fuel
  induction fuel with
  | zero =>
    intro listed a w _ _ hr hy hS H
    refine ⟨fun h => (by rw [h] at hr; cases hr), fun j hj => ?_⟩
    by_cases hji : j = i
    · subst hji
      exact hy.wpOp hi hS ⟨hre _ _, weaker (fun _ _ _ h => h.1) _ _ _ _ H⟩
    · have := ready_mono hj hji
      rw [H.1] at this
      cases this
  | succ fuel ih =>
    intro listed a w hC hfree hr hy hS H
    refine ⟨fun h => (by rw [h] at hr; cases hr), fun j hj => ?_⟩
    by_cases hji : j = i
    · subst hji
      exact hy.wpOp hi hS ⟨hre _ _, weaker (fun _ _ _ h => h.1) _ _ _ _ H⟩
    · have h1 := H.2 j (ready_mono hj hji)
      obtain ⟨hjun, oj, hoj, hall⟩ := mem_ready.1 hj
      have hun : ∀ k, listed.getD k true = false → ∀ e ∈ oj.after, Region.binds md e = true → e.on ≠ k := fun k h0 e he hb heq => by
        have h1 := hall e he hb
        rw [heq] at h1
        rcases Nat.lt_or_ge k listed.size with h' | h'
        · simp [h'] at h0 h1
          rw [h0] at h1
          cases h1
        · simp [Array.getElem?_eq_none h'] at h1
      have hnot : ∀ e ∈ oj.after, Region.binds md e = true → e.on ≠ i := hun i (mem_ready.1 hr).1
      have hjC : j ∉ C := fun hjc => by
        obtain ⟨_, _, o, ho, e, he, hb, hor⟩ := hC j hjc
        rw [hoj] at ho
        injection ho with ho
        subst ho
        rcases hor with hor | hor
        · exact hnot e he hb hor
        · exact hun _ (hC _ hor).2.1 e he hb rfl
      have h2 := wpOp_putIf hoj (hfree j oj hoj hji hjun hnot) (fun cs b => hsel i oi cs b hi) (fun cs b => hsel j oj cs b hoj) hQ hy h1
      have hfree' : ∀ k ok, ops[k]? = some ok → k ≠ i → (listed.setIfInBounds j true).getD k true = false →
          (∀ e ∈ ok.after, Region.binds md e = true → e.on ≠ i) → oi.apart ops ok = true := fun k ok hk hki hun hno => by
        refine hfree k ok hk hki ?_ hno
        by_cases hjk : j = k
        · subst hjk
          exact hjun
        · rw [getD_set_ne true hjk] at hun
          exact hun
      have hC' : ∀ k ∈ C, k ≠ i ∧ (listed.setIfInBounds j true).getD k true = false ∧ ∃ o, ops[k]? = some o ∧ ∃ e ∈ o.after, Region.binds md e = true ∧ (e.on = i ∨ e.on ∈ C) := fun k hk => by
        obtain ⟨a1, a2, a3⟩ := hC k hk
        refine ⟨a1, ?_, a3⟩
        have hjk : j ≠ k := by
          rintro rfl
          exact hjC hk
        rw [getD_set_ne true hjk]
        exact a2
      have hjC2 : C.contains j = false := by
        cases h : C.contains j
        · rfl
        · exact absurd (List.contains_iff_mem.1 h) hjC
      refine wpOp_mono (fun a' w' h3 => ⟨h3.2.1.1, ih (listed.setIfInBounds j true) a' w' hC' hfree' (ready_mono hr (Ne.symm hji)) h3.1 (h3.2.1.2 hjC2 hS) ?_⟩) h2
      rw [Array.setIfInBounds_comm _ _ hji]
      exact h3.2.2
/-- A load (what reads the world): take it first, under R. -/
theorem take {i : Nat} {oi : Oper} {v : Value} {fuel : Nat} {listed : Array Bool} {a : Act} {w : World} (R : World → Prop) (hi : ops[i]? = some oi)
    (hs : Region.noSelect ops = true) (hf : Region.free md ops listed i = true) (hr : (Region.ready md ops listed).contains i = true) (hT : closedB md ops listed i (cl md ops listed i 4) (fun _ => false) = true)
    (hQ : ∀ c a w, Q (.panic c) (a.put oi.dst v) w → Q (.panic c) a w) (hre : ∀ j w, Ob j w w) (hy : YieldsIf P ops R oi v a) (hS : R w)
    (h : wpAnyW P md ops Q (Plus Ob (cl md ops listed i 4) R) fuel (listed.setIfInBounds i true) (a.put oi.dst v) w) : wpAnyW P md ops Q Ob (fuel + 1) listed a w :=
  first (R := R) hi (Region.noSelect_spec hs) hQ hre fuel listed a w (closed_spec hT).1 (Region.free_spec hi hf) (by simpa using hr) hy hS h
/-- What only computes: take it first. -/
theorem comp {i : Nat} {oi : Oper} {v : Value} {fuel : Nat} {listed : Array Bool} {a : Act} {w : World} (hi : ops[i]? = some oi)
    (hs : Region.noSelect ops = true) (hf : Region.free md ops listed i = true) (hr : (Region.ready md ops listed).contains i = true)
    (hQ : ∀ c a w, Q (.panic c) (a.put oi.dst v) w → Q (.panic c) a w) (hre : ∀ j w, Ob j w w) (hy : YieldsIf P ops (fun _ => True) oi v a)
    (h : wpAnyW P md ops Q Ob fuel (listed.setIfInBounds i true) (a.put oi.dst v) w) : wpAnyW P md ops Q Ob (fuel + 1) listed a w :=
  first (R := fun _ => True) (C := []) hi (Region.noSelect_spec hs) hQ hre fuel listed a w (fun _ h => by cases h) (Region.free_spec hi hf) (by simpa using hr) hy trivial (weaker (Ob' := Ob) (fun _ _ _ h => ⟨h, fun _ _ => trivial⟩) _ _ _ _ h)
/-- One alone may come up. -/
theorem one {i : Nat} {o : Oper} {fuel : Nat} {listed : Array Bool} {a : Act} {w : World} (ho : ops[i]? = some o) (hr : Region.ready md ops listed = [i])
    (h : ∀ K : Act → World → Prop, Shut (∀ a w', Ob i w w' → wpAnyW P md ops Q Ob fuel (listed.setIfInBounds i true) a w' → K a w') → if Region.wanted o (yielded ops a.tmps) = true then Oper.wp P o a w K Q else K (a.put o.dst undef) w) :
    wpAnyW P md ops Q Ob (fuel + 1) listed a w :=
  ⟨fun h0 => (by rw [hr] at h0; cases h0), fun j hj => by
    rw [hr] at hj
    simp only [List.mem_singleton] at hj
    subst hj
    exact wpOp_step ho (fun K' hK => h K' (fun a w hS hW => hK a w ⟨hS, hW⟩))⟩
theorem two {i j : Nat} {oi oj : Oper} {fuel : Nat} {listed : Array Bool} {a : Act} {w : World} (hoi : ops[i]? = some oi) (hoj : ops[j]? = some oj) (hr : Region.ready md ops listed = [i, j])
    (h : ∀ K : Act → World → Prop, Shut (∀ a w', Ob i w w' → wpAnyW P md ops Q Ob fuel (listed.setIfInBounds i true) a w' → K a w') → if Region.wanted oi (yielded ops a.tmps) = true then Oper.wp P oi a w K Q else K (a.put oi.dst undef) w)
    (h' : ∀ K : Act → World → Prop, Shut (∀ a w', Ob j w w' → wpAnyW P md ops Q Ob fuel (listed.setIfInBounds j true) a w' → K a w') → if Region.wanted oj (yielded ops a.tmps) = true then Oper.wp P oj a w K Q else K (a.put oj.dst undef) w) :
    wpAnyW P md ops Q Ob (fuel + 1) listed a w :=
  ⟨fun h0 => (by rw [hr] at h0; cases h0), fun k hk => by
    rw [hr] at hk
    simp only [List.mem_cons, List.not_mem_nil, or_false] at hk
    rcases hk with rfl | rfl
    · exact wpOp_step hoi (fun K' hK => h K' (fun a w hS hW => hK a w ⟨hS, hW⟩))
    · exact wpOp_step hoj (fun K' hK => h' K' (fun a w hS hW => hK a w ⟨hS, hW⟩))⟩
theorem three {i j l : Nat} {oi oj ol : Oper} {fuel : Nat} {listed : Array Bool} {a : Act} {w : World} (hoi : ops[i]? = some oi) (hoj : ops[j]? = some oj) (hol : ops[l]? = some ol) (hr : Region.ready md ops listed = [i, j, l])
    (h : ∀ K : Act → World → Prop, Shut (∀ a w', Ob i w w' → wpAnyW P md ops Q Ob fuel (listed.setIfInBounds i true) a w' → K a w') → if Region.wanted oi (yielded ops a.tmps) = true then Oper.wp P oi a w K Q else K (a.put oi.dst undef) w)
    (h' : ∀ K : Act → World → Prop, Shut (∀ a w', Ob j w w' → wpAnyW P md ops Q Ob fuel (listed.setIfInBounds j true) a w' → K a w') → if Region.wanted oj (yielded ops a.tmps) = true then Oper.wp P oj a w K Q else K (a.put oj.dst undef) w)
    (h'' : ∀ K : Act → World → Prop, Shut (∀ a w', Ob l w w' → wpAnyW P md ops Q Ob fuel (listed.setIfInBounds l true) a w' → K a w') → if Region.wanted ol (yielded ops a.tmps) = true then Oper.wp P ol a w K Q else K (a.put ol.dst undef) w) :
    wpAnyW P md ops Q Ob (fuel + 1) listed a w :=
  ⟨fun h0 => (by rw [hr] at h0; cases h0), fun k hk => by
    rw [hr] at hk
    simp only [List.mem_cons, List.not_mem_nil, or_false] at hk
    rcases hk with rfl | rfl | rfl
    · exact wpOp_step hoi (fun K' hK => h K' (fun a w hS hW => hK a w ⟨hS, hW⟩))
    · exact wpOp_step hoj (fun K' hK => h' K' (fun a w hS hW => hK a w ⟨hS, hW⟩))
    · exact wpOp_step hol (fun K' hK => h'' K' (fun a w hS hW => hK a w ⟨hS, hW⟩))⟩
theorem done {listed : Array Bool} {a : Act} {w : World} (hr : Region.ready md ops listed = []) (h : Q .normal a w) : ∀ fuel, wpAnyW P md ops Q Ob fuel listed a w
  | 0 => ⟨hr, h⟩
  | _ + 1 => ⟨fun _ => h, by rw [hr]; simp⟩
/-- What waits no more for a load asks nothing for it. -/
theorem relax {C : List Nat} {R : World → Prop} : ∀ {fuel : Nat} {listed : Array Bool} {a : Act} {w : World}, ((List.range ops.size).all fun j => listed.getD j true || C.contains j) = true → wpAnyW P md ops Q Ob fuel listed a w → wpAnyW P md ops Q (Plus Ob C R) fuel listed a w
  | 0, _, _, _, _, h => h
  | fuel + 1, listed, a, w, hc, h => ⟨h.1, fun i hi => by
    obtain ⟨hun, o, ho, _⟩ := mem_ready.1 hi
    have hil : i < ops.size := (Array.getElem?_eq_some_iff.1 ho).1
    have hC : C.contains i = true := by
      have := List.all_eq_true.1 hc i (List.mem_range.2 hil)
      rw [hun, Bool.false_or] at this
      exact this
    refine wpOp_mono (fun a' w' h' => ⟨⟨h'.1, fun hF => (by rw [hC] at hF; cases hF)⟩, relax ?_ h'.2⟩) (h.2 i hi)
    refine List.all_eq_true.2 fun j hj => ?_
    have := List.all_eq_true.1 hc j hj
    rcases Bool.or_eq_true_iff.1 this with h1 | h1
    · by_cases hij : i = j
      · subst hij
        rw [hun] at h1
        cases h1
      · rw [getD_set_ne true hij, h1]
        rfl
    · rw [h1, Bool.or_true]⟩
theorem canon {listed listed' : Array Bool} {fuel : Nat} {a : Act} {w : World} (h : listed = listed') (H : wpAnyW P md ops Q Ob fuel listed' a w) : wpAnyW P md ops Q Ob fuel listed a w := h ▸ H
/-- Nothing is asked at first. -/
def Ob0 (_ : Nat) (_ _ : World) : Prop := True
theorem re0 : ∀ j w, Ob0 j w w := fun _ _ => trivial
theorem rePlus {C : List Nat} {R : World → Prop} (h : ∀ j w, Ob j w w) : ∀ j w, Plus Ob C R j w w := fun j w => ⟨h j w, fun _ h => h⟩
theorem start {id : Nat} {a : Act} {w : World} (hm : P.follows .mixedOrders = true)
    (h : wpAnyW P .any ops Q Ob0 ops.size (Array.replicate ops.size false) a w.drew) : (Code.region id ops true).wp P Q a w :=
  wp_region_any hm (wpAny_of_W _ _ _ _ h)
end
theorem out_of {C : List Nat} {j : Nat} {p q : Prop} (h : C.contains j = true) : C.contains j = false → p → q := fun h' => by rw [h] at h'; cases h'
open Go.ChangeAt Go.RowKit Go.ChangeShapes Go.WideShapes
/-- A cell that is there stays over a call. -/
theorem cell_below {w w' : World} {p : Addr} {u : Value} (hb : Below w.heap.size w w') (h : w.cell? p = some u) : w'.cell? p = some u := by
  have hp : p.block < w.heap.size := by
    rcases Nat.lt_or_ge p.block w.heap.size with h' | h'
    · exact h'
    · exfalso
      unfold World.cell? at h
      rw [Array.getElem?_eq_none h'] at h
      cases h
  exact (hb.cell hp).trans h
theorem cell_grown {w w' : World} {p : Addr} {u : Value} {R : Nat} (g : w.grownBy w' (some R)) (hne : p.block ≠ R) (h : w.cell? p = some u) : w'.cell? p = some u := by
  have hp : p.block < w.heap.size := by
    rcases Nat.lt_or_ge p.block w.heap.size with h' | h'
    · exact h'
    · exfalso
      unfold World.cell? at h
      rw [Array.getElem?_eq_none h'] at h
      cases h
  exact (World.cell?_of_block (g.block p.block hp (fun e => hne (by injection e)))).trans h
/-- What follows a point that several orders come to is proved once. -/
theorem tail7 {α1 α2 α3 α4 α5 α6 α7 : Type} {F G : α1 → α2 → α3 → α4 → α5 → α6 → α7 → Prop} {A : Prop} (main : Shut (∀ x1 x2 x3 x4 x5 x6 x7, F x1 x2 x3 x4 x5 x6 x7 → G x1 x2 x3 x4 x5 x6 x7) → A) (tail : ∀ x1 x2 x3 x4 x5 x6 x7, F x1 x2 x3 x4 x5 x6 x7 → G x1 x2 x3 x4 x5 x6 x7) : A := main tail
end Go.Proofs.Ytmglgjchemecjaa.Rw
/- The program's WarningsOf. -/
namespace Go.Proofs.Ytmglgjchemecjaa.CWarn
set_option maxRecDepth 200000
open Go.ChangeShapes Go.WideShapes Go.ChangeAt Go.RowKit Kit CCode CFixups CSymbols PObj BObj PValid CSecValid CUses CCovers CObjValid PWarn
set_option maxHeartbeats 4000000 in
theorem warningsOf_any (o : OV) (w : World) (hr : RdO w w.heap.size o) (hf : Fit o) (hcz : ∀ p ∈ o.ps, p.zs.length ≤ p.c) :
    Calls Try.prog 11 #[.agg #[.slice o.A o.ps.length o.c, .slice o.Y o.ys.length o.yc]] w (RetW (warns o.d) w) := by
  obtain ⟨i0, hi, hz0, hz1, hz2⟩ := info_parts CWarnings.info
  have HI := hide (And.intro hi (And.intro hz0 (And.intro hz1 hz2)))
  clear hi hz0 hz1 hz2
  obtain ⟨A, c, ps, Y, yc, ys⟩ := o
  have HF := hide hf
  obtain ⟨np, ny, cy, hp, hy⟩ := hf
  simp only at np ny cy hp hy hcz ⊢
  have HR := hide hr
  have HL := hide (And.intro hp (And.intro hy hcz))
  clear hr hp hy hcz
  have B0 : Below w.heap.size w ((w.alloc (.cells #[.slice A ps.length c, .slice Y ys.length yc] 26)).alloc (.cells #[] 31)) := (by repeat (first | exact Below.refl _ _ | with_reducible assumption | (refine Below.drew ?_) | (refine Below.drewN ?_ _) | (refine Below.alloc ?_ (by simp; try omega) _) | (refine Below.setCell ?_ (by simp; try omega) _)))
  have HX0 := hide ((Box.new w 26 #[.slice A ps.length c, .slice Y ys.length yc]).alloc (.cells #[] 31))
  have HB0 := hide B0
  clear B0
  go_enter Try.func11, Try.ntmps11
  go_wp2_with fail
  generalize (w.alloc (.cells #[.slice A ps.length c, .slice Y ys.length yc] 26)).alloc (.cells #[] 31) = w0 at *
  refine (objectValid_any ⟨A, c, ps, Y, yc, ys⟩ w0 ((HR.out.below HB0.out).more HB0.out.size) HF.out).mono ?_
  rintro e w1 ⟨rfl, b1⟩
  have HX := hide (HX0.out.call b1)
  have HB := hide (HB0.out.trans (b1.mono HB0.out.size))
  clear b1 HX0 HB0
  cases hok : objOk (OV.d ⟨A, c, ps, Y, yc, ys⟩)
  · have HV := hide (show warns (OV.d ⟨A, c, ps, Y, yc, ys⟩) = [] by rw [warns, hok]; rfl)
    go_wp2_with fail
    go_ret
    rw [HV.out]
    exact ⟨some ⟨w.heap.size + 1, 0, none⟩, 0, rfl, Row.empty _ _ _ _ _, HB.out⟩
  have HV := hide (show warns (OV.d ⟨A, c, ps, Y, yc, ys⟩) = list (OV.d ⟨A, c, ps, Y, yc, ys⟩) by rw [warns, hok]; rfl)
  obtain ⟨b1, b2, hin⟩ := obj_facts hok
  simp only [OV.d, List.length_map] at b1 b2
  have HIN := hide (show ∀ p ∈ ps, InB p.zs p.fs from fun p hp => hin p.d (List.mem_map_of_mem hp))
  clear hin hok
  have hx := HX.out
  have x0 := hx.cell 0
  have x1 := hx.cell 1
  simp only [List.getElem?_toArray, List.getElem?_cons_zero, List.getElem?_cons_succ] at x0 x1
  clear hx
  go_wp2_with fail
  clear x0 x1
  have hL1 : ∀ n, (upto (at1 ⟨ps.map SV.d, ys⟩) n).length ≤ n := upto_len (at1_len _)
  have hL2 : ∀ n, (upto (at2 ⟨ps.map SV.d, ys⟩) n).length ≤ n := upto_len (at2_len _)
  have hL3 : ∀ n, (upto (at3 ⟨ps.map SV.d, ys⟩) n).length ≤ n := upto_len (at3_len _)
  have HL1 := hide hL1
  have HL2 := hide hL2
  have HL3 := hide hL3
  clear hL1 hL2 hL3
  go_loopw [3, 18] (fun sl i wi => ∃ (k : Nat) (A1 : Option Addr) (c1 : Nat) (L : List WD), k ≤ ys.length ∧ i = .int .i64 k ∧ sl = .slice A1 L.length c1 ∧ L = upto (at1 ⟨ps.map SV.d, ys⟩) k ∧ Row wi w.heap.size 31 2 A1 L.length c1 (cellsOf CWarnings.warningC L) ∧ Box wi w.heap.size 26 #[.slice A ps.length c, .slice Y ys.length yc] ∧ Below w.heap.size w wi) (fun _ i _ => ys.length - (intOf i).toNat)
  case atStart => exact ⟨0, some ⟨w.heap.size + 1, 0, none⟩, 0, [], Nat.zero_le _, rfl, rfl, rfl, Row.empty _ _ _ _ _, HX.out, HB.out⟩
  case round =>
    clear HX HB
    obtain ⟨k, A1, c1, L, hk, rfl, rfl, hLe, ho, hx, hb⟩ := hrel
    have hLl : L.length ≤ 28 := by have := HL1.out k; rw [hLe]; omega
    have HLE := hide hLe
    have HO := hide ho
    have HX := hide hx
    have HB := hide hb
    have x0 := hx.cell 0
    have x1 := hx.cell 1
    simp only [List.getElem?_toArray, List.getElem?_cons_zero, List.getElem?_cons_succ] at x0 x1
    have hxl := hx.lt
    by_cases hlt : k < ys.length
    · obtain ⟨b, off, hY, hbg, hc⟩ := (HR.out.2.below hb).row symbolC_len (by decide) hlt
      have hc0 := hc 0 _ rfl
      have hc1 := hc 1 _ rfl
      have hc2 := hc 2 _ rfl
      have hc3 := hc 3 _ rfl
      simp only [Nat.add_zero] at hc0
      have HA := hide (show at1 ⟨ps.map SV.d, ys⟩ k = if ys[k].2.2.1 = -1 ∧ used (ps.map SV.d) k = false then [((1 : Int), (k : Int))] else [] by unfold at1; rw [getD_at hlt])
      have HU := hide (show upto (at1 ⟨ps.map SV.d, ys⟩) (k + 1) = L ++ at1 ⟨ps.map SV.d, ys⟩ k by rw [upto_succ, hLe])
      clear hLe ho hx hb hc
      subst hY
      generalize ys[k] = z at *
      obtain ⟨zn, zb, zw, zv⟩ := z
      simp only at hc0 hc1 hc2 hc3 HA
      by_cases h1 : zw = -1
      · have e1 : (zw == -1) = true := beq_iff_eq.2 h1
        have H1 := hide h1
        clear h1
        go_wp2_with fail
        have HX1 := hide (HX.out.alloc (.cells #[.string zn, .int .i64 zb, .int .i64 zw, .int .i64 zv] 69))
        have HB1 := hide (HB.out.alloc HB.out.size (.cells #[.string zn, .int .i64 zb, .int .i64 zw, .int .i64 zv] 69))
        have HO1 := hide (HO.out.alloc (.cells #[.string zn, .int .i64 zb, .int .i64 zw, .int .i64 zv] 69))
        clear HX HB HO hc0 hc1 hc2 hc3 x0 x1
        generalize wr.alloc (.cells #[.string zn, .int .i64 zb, .int .i64 zw, .int .i64 zv] 69) = wa at *
        refine (uses_any ⟨A, c, ps, some ⟨b, off, none⟩, yc, ys⟩ k wa ((HR.out.below HB1.out).more HB1.out.size) (Nat.le_trans np (by decide)) (fun p hp => Nat.le_trans (HL.out.1 p hp).2.2 (by decide))).mono ?_
        rintro e w2 ⟨rfl, bb⟩
        have HX := hide (HX1.out.call bb)
        have HB := hide (HB1.out.trans (bb.mono HB1.out.size))
        have HO := hide (HO1.out.call bb)
        clear bb HX1 HB1 HO1
        simp only [OV.d]
        cases hu : used (ps.map SV.d) k
        · rw [hu, if_pos ⟨H1.out, rfl⟩] at HA
          clear H1 e1 hu
          go_wp2_with (at_builtin; refine wpList_app (w2.alloc (.cells #[.int .i64 1, .int .i64 k] 31)) rfl (.tmp 32) (.tmp 35) 28 rfl 31 i0 (.agg #[.int .i64 0, .int .i64 0]) 2 16 Try.underlying28 HI.out.1 HI.out.2.1 HI.out.2.2.1 HI.out.2.2.2 rfl (by decide) w.heap.size A1 L.length c1 (cellsOf CWarnings.warningC L) rfl (HO.out.alloc _) ?hb (some ⟨w2.heap.size, 0, none⟩) 1 1 [.int .i64 1, .int .i64 k] rfl (rd_lit w2 #[.int .i64 1, .int .i64 k] 31 _ rfl) rfl (fun h => by cases h) ?o1 ?n1 ?n2 ?_)
          case hb => exact (HB.out.alloc HB.out.size _).size
          case o1 => intro u hu; simp only [List.mem_cons, List.not_mem_nil, or_false] at hu; rcases hu with rfl | rfl <;> rfl
          case n1 => unfold maxLen; omega
          case n2 => omega
          intro A3 n3 c3 w3 hn3 o3 g3 k3
          subst hn3
          have HB3 := hide (show Below w.heap.size w w3 from (HB.out.alloc HB.out.size _).grown g3 (HB.out.alloc HB.out.size _).size (fun j hj => (HO.out.lt j hj).1))
          have HX3 := hide ((HX.out.alloc (.cells #[.int .i64 1, .int .i64 k] 31)).grown g3 (fun j hj => (HO.out.alloc (.cells #[.int .i64 1, .int .i64 k] 31)).box (HX.out.alloc _) (by decide) j hj))
          have HO3 := hide (show Row w3 w.heap.size 31 2 A3 (L ++ [((1 : Int), (k : Int))]).length c3 (cellsOf CWarnings.warningC (L ++ [((1 : Int), (k : Int))])) by rw [List.length_append]; simpa [cellsOf, CWarnings.warningC] using o3)
          clear o3 g3 k3 HO HB HX
          go_wp2_with fail
          refine ⟨⟨k + 1, A3, c3, L ++ [(1, (k : Int))], by omega, by go_num, by simp, by rw [HU.out, HA.out], HO3.out, HX3.out, HB3.out⟩, by simp [intOf]; omega⟩
        · rw [hu, if_neg (fun h => by cases h.2)] at HA
          clear H1 e1 hu
          go_wp2_with fail
          refine ⟨⟨k + 1, A1, c1, L, by omega, by go_num, rfl, by rw [HU.out, HA.out, List.append_nil], HO.out, HX.out, HB.out⟩, by simp [intOf]; omega⟩
      · have e1 : (zw == -1) = false := beq_eq_false_iff_ne.2 h1
        rw [if_neg (fun h => h1 h.1)] at HA
        clear h1
        go_wp2_with fail
        refine ⟨⟨k + 1, A1, c1, L, by omega, by go_num, rfl, by rw [HU.out, HA.out, List.append_nil], HO.out.alloc _, HX.out.alloc _, HB.out.alloc HB.out.size _⟩, by simp [intOf]; omega⟩
    · have e : k = ys.length := by omega
      subst e
      clear ho hx hb
      go_wp2_with fail
      clear x0 x1
      have HP := hide HLE.out
      generalize hP : L = P at *
      have hPl : P.length ≤ 12 := by have := HL1.out ys.length; rw [hLe]; omega
      clear hLe HLE hLl hP
      go_loopw [3, 41] (fun sl i wi => ∃ (k : Nat) (A1 : Option Addr) (c1 : Nat) (L : List WD), k ≤ ps.length ∧ i = .int .i64 k ∧ sl = .slice A1 L.length c1 ∧ L = P ++ upto (at2 ⟨ps.map SV.d, ys⟩) k ∧ Row wi w.heap.size 31 2 A1 L.length c1 (cellsOf CWarnings.warningC L) ∧ Box wi w.heap.size 26 #[.slice A ps.length c, .slice Y ys.length yc] ∧ Below w.heap.size w wi) (fun _ i _ => ps.length - (intOf i).toNat)
      case atStart => exact ⟨0, A1, c1, P, Nat.zero_le _, rfl, rfl, by simp [upto], HO.out, HX.out, HB.out⟩
      case round =>
        clear HX HB HO
        obtain ⟨k, A1, c1, L, hk, rfl, rfl, hLe, ho, hx, hb⟩ := hrel
        have hLl : L.length ≤ 28 := by have := HL2.out k; rw [hLe, List.length_append]; omega
        have HLE := hide hLe
        have HO := hide ho
        have HX := hide hx
        have HB := hide hb
        have x0 := hx.cell 0
        have x1 := hx.cell 1
        simp only [List.getElem?_toArray, List.getElem?_cons_zero, List.getElem?_cons_succ] at x0 x1
        have hxl := hx.lt
        by_cases hlt : k < ps.length
        · obtain ⟨b, off, hA, hbg, hc⟩ := (HR.out.1.1.below hb).row secC_len (by decide) hlt
          have hc0 := hc 0 _ rfl
          have hc1 := hc 1 _ rfl
          have hc2 := hc 2 _ rfl
          have hc3 := hc 3 _ rfl
          have hc4 := hc 4 _ rfl
          have hc5 := hc 5 _ rfl
          simp only [Nat.add_zero] at hc0
          have HA := hide (show at2 ⟨ps.map SV.d, ys⟩ k = if secSize ps[k].d = 0 then [((2 : Int), (k : Int))] else [] by unfold at2; rw [getS hlt])
          have HU := hide (show P ++ upto (at2 ⟨ps.map SV.d, ys⟩) (k + 1) = L ++ at2 ⟨ps.map SV.d, ys⟩ k by rw [upto_succ, hLe, List.append_assoc])
          have HM := hide (HL.out.1 _ (List.getElem_mem hlt))
          have HCZ := hide (HL.out.2.2 _ (List.getElem_mem hlt))
          have HRS := hide (HR.out.1.2 _ (List.getElem_mem hlt))
          have HINP := hide (HIN.out _ (List.getElem_mem hlt))
          clear hLe ho hx hb hc
          subst hA
          generalize ps[k] = p at *
          go_wp2_with fail
          have HX1 := hide (HX.out.alloc (.cells #[.string p.nm, .int .i64 p.kd, .int .i64 p.al, .slice p.A p.zs.length p.c, .int .i64 p.sz, .slice p.F p.fs.length p.fc] 73))
          have HB1 := hide (HB.out.alloc HB.out.size (.cells #[.string p.nm, .int .i64 p.kd, .int .i64 p.al, .slice p.A p.zs.length p.c, .int .i64 p.sz, .slice p.F p.fs.length p.fc] 73))
          have HO1 := hide (HO.out.alloc (.cells #[.string p.nm, .int .i64 p.kd, .int .i64 p.al, .slice p.A p.zs.length p.c, .int .i64 p.sz, .slice p.F p.fs.length p.fc] 73))
          clear HX HB HO hc0 hc1 hc2 hc3 hc4 hc5 x0 x1
          generalize wr.alloc (.cells #[.string p.nm, .int .i64 p.kd, .int .i64 p.al, .slice p.A p.zs.length p.c, .int .i64 p.sz, .slice p.F p.fs.length p.fc] 73) = wa at *
          refine (sectionSize_any p wa (Nat.le_trans HM.out.2.1 (by decide))).mono ?_
          rintro e w2 ⟨rfl, bb⟩
          have HX := hide (HX1.out.call bb)
          have HB := hide (HB1.out.trans (bb.mono HB1.out.size))
          have HO := hide (HO1.out.call bb)
          clear bb HX1 HB1 HO1
          generalize secSize p.d = q at *
          by_cases h1 : q = 0
          · have e1 : (q == 0) = true := beq_iff_eq.2 h1
            rw [if_pos h1] at HA
            clear h1
            go_wp2_with (at_builtin; refine wpList_app (w2.alloc (.cells #[.int .i64 2, .int .i64 k] 31)) rfl (.tmp 49) (.tmp 52) 28 rfl 31 i0 (.agg #[.int .i64 0, .int .i64 0]) 2 16 Try.underlying28 HI.out.1 HI.out.2.1 HI.out.2.2.1 HI.out.2.2.2 rfl (by decide) w.heap.size A1 L.length c1 (cellsOf CWarnings.warningC L) rfl (HO.out.alloc _) ?hb (some ⟨w2.heap.size, 0, none⟩) 1 1 [.int .i64 2, .int .i64 k] rfl (rd_lit w2 #[.int .i64 2, .int .i64 k] 31 _ rfl) rfl (fun h => by cases h) ?o1 ?n1 ?n2 ?_)
            case hb => exact (HB.out.alloc HB.out.size _).size
            case o1 => intro u hu; simp only [List.mem_cons, List.not_mem_nil, or_false] at hu; rcases hu with rfl | rfl <;> rfl
            case n1 => unfold maxLen; omega
            case n2 => omega
            intro A3 n3 c3 w3 hn3 o3 g3 k3
            subst hn3
            have HB3 := hide (show Below w.heap.size w w3 from (HB.out.alloc HB.out.size _).grown g3 (HB.out.alloc HB.out.size _).size (fun j hj => (HO.out.lt j hj).1))
            have HX3 := hide ((HX.out.alloc (.cells #[.int .i64 2, .int .i64 k] 31)).grown g3 (fun j hj => (HO.out.alloc (.cells #[.int .i64 2, .int .i64 k] 31)).box (HX.out.alloc _) (by decide) j hj))
            have HO3 := hide (show Row w3 w.heap.size 31 2 A3 (L ++ [((2 : Int), (k : Int))]).length c3 (cellsOf CWarnings.warningC (L ++ [((2 : Int), (k : Int))])) by rw [List.length_append]; simpa [cellsOf, CWarnings.warningC] using o3)
            clear o3 g3 k3 HO HB HX
            go_wp2_with fail
            refine ⟨⟨k + 1, A3, c3, L ++ [(2, (k : Int))], by omega, by go_num, by simp, by rw [HU.out, HA.out], HO3.out, HX3.out, HB3.out⟩, by simp [intOf]; omega⟩
          · have e1 : (q == 0) = false := beq_eq_false_iff_ne.2 h1
            rw [if_neg h1] at HA
            clear h1
            go_wp2_with fail
            refine ⟨⟨k + 1, A1, c1, L, by omega, by go_num, rfl, by rw [HU.out, HA.out, List.append_nil], HO.out, HX.out, HB.out⟩, by simp [intOf]; omega⟩
        · have e : k = ps.length := by omega
          subst e
          clear ho hx hb
          go_wp2_with fail
          clear x0 x1
          have HP2 := hide (show L = upto (at1 ⟨ps.map SV.d, ys⟩) ys.length ++ upto (at2 ⟨ps.map SV.d, ys⟩) ps.length by rw [HLE.out, HP.out])
          have hPl2 : L.length ≤ 20 := by have := HL2.out ps.length; rw [HLE.out, List.length_append]; omega
          clear HLE hLl HP hPl hLe
          generalize hP : L = P2 at *
          clear hP
          go_loopw [3, 58] (fun sl i wi => ∃ (k : Nat) (A1 : Option Addr) (c1 : Nat) (L : List WD), k ≤ ps.length ∧ i = .int .i64 k ∧ sl = .slice A1 L.length c1 ∧ L = P2 ++ upto (at3 ⟨ps.map SV.d, ys⟩) k ∧ Row wi w.heap.size 31 2 A1 L.length c1 (cellsOf CWarnings.warningC L) ∧ Box wi w.heap.size 26 #[.slice A ps.length c, .slice Y ys.length yc] ∧ Below w.heap.size w wi) (fun _ i _ => ps.length - (intOf i).toNat)
          case atStart => exact ⟨0, A1, c1, P2, Nat.zero_le _, rfl, rfl, by simp [upto], HO.out, HX.out, HB.out⟩
          case round =>
            clear HX HB HO
            obtain ⟨k, A1, c1, L, hk, rfl, rfl, hLe, ho, hx, hb⟩ := hrel
            have hLl : L.length ≤ 28 := by have := HL3.out k; rw [hLe, List.length_append]; omega
            have HLE := hide hLe
            have HO := hide ho
            have HX := hide hx
            have HB := hide hb
            have x0 := hx.cell 0
            have x1 := hx.cell 1
            simp only [List.getElem?_toArray, List.getElem?_cons_zero, List.getElem?_cons_succ] at x0 x1
            have hxl := hx.lt
            by_cases hlt : k < ps.length
            · obtain ⟨b, off, hA, hbg, hc⟩ := (HR.out.1.1.below hb).row secC_len (by decide) hlt
              have hc0 := hc 0 _ rfl
              have hc1 := hc 1 _ rfl
              have hc2 := hc 2 _ rfl
              have hc3 := hc 3 _ rfl
              have hc4 := hc 4 _ rfl
              have hc5 := hc 5 _ rfl
              simp only [Nat.add_zero] at hc0
              have HA := hide (show at3 ⟨ps.map SV.d, ys⟩ k = if coverB ps[k].d = true then [((3 : Int), (k : Int))] else [] by unfold at3; rw [getS hlt])
              have HU := hide (show P2 ++ upto (at3 ⟨ps.map SV.d, ys⟩) (k + 1) = L ++ at3 ⟨ps.map SV.d, ys⟩ k by rw [upto_succ, hLe, List.append_assoc])
              have HM := hide (HL.out.1 _ (List.getElem_mem hlt))
              have HCZ := hide (HL.out.2.2 _ (List.getElem_mem hlt))
              have HRS := hide (HR.out.1.2 _ (List.getElem_mem hlt))
              have HINP := hide (HIN.out _ (List.getElem_mem hlt))
              clear hLe ho hx hb hc
              subst hA
              generalize ps[k] = p at *
              go_wp2_with fail
              have HX1 := hide (HX.out.alloc (.cells #[.string p.nm, .int .i64 p.kd, .int .i64 p.al, .slice p.A p.zs.length p.c, .int .i64 p.sz, .slice p.F p.fs.length p.fc] 73))
              have HB1 := hide (HB.out.alloc HB.out.size (.cells #[.string p.nm, .int .i64 p.kd, .int .i64 p.al, .slice p.A p.zs.length p.c, .int .i64 p.sz, .slice p.F p.fs.length p.fc] 73))
              have HO1 := hide (HO.out.alloc (.cells #[.string p.nm, .int .i64 p.kd, .int .i64 p.al, .slice p.A p.zs.length p.c, .int .i64 p.sz, .slice p.F p.fs.length p.fc] 73))
              clear HX HB HO hc0 hc1 hc2 hc3 hc4 hc5 x0 x1
              generalize wr.alloc (.cells #[.string p.nm, .int .i64 p.kd, .int .i64 p.al, .slice p.A p.zs.length p.c, .int .i64 p.sz, .slice p.F p.fs.length p.fc] 73) = wa at *
              refine (covers_any p wa ((HRS.out.below HB1.out).more HB1.out.size) HM.out.2.1 HM.out.2.2 HCZ.out HINP.out).mono ?_
              rintro e w2 ⟨rfl, bb⟩
              have HX := hide (HX1.out.call bb)
              have HB := hide (HB1.out.trans (bb.mono HB1.out.size))
              have HO := hide (HO1.out.call bb)
              clear bb HX1 HB1 HO1
              cases h1 : coverB p.d
              · rw [h1, if_neg (by decide)] at HA
                clear h1
                go_wp2_with fail
                refine ⟨⟨k + 1, A1, c1, L, by omega, by go_num, rfl, by rw [HU.out, HA.out, List.append_nil], HO.out, HX.out, HB.out⟩, by simp [intOf]; omega⟩
              · rw [h1, if_pos rfl] at HA
                clear h1
                go_wp2_with (at_builtin; refine wpList_app (w2.alloc (.cells #[.int .i64 3, .int .i64 k] 31)) rfl (.tmp 65) (.tmp 68) 28 rfl 31 i0 (.agg #[.int .i64 0, .int .i64 0]) 2 16 Try.underlying28 HI.out.1 HI.out.2.1 HI.out.2.2.1 HI.out.2.2.2 rfl (by decide) w.heap.size A1 L.length c1 (cellsOf CWarnings.warningC L) rfl (HO.out.alloc _) ?hb (some ⟨w2.heap.size, 0, none⟩) 1 1 [.int .i64 3, .int .i64 k] rfl (rd_lit w2 #[.int .i64 3, .int .i64 k] 31 _ rfl) rfl (fun h => by cases h) ?o1 ?n1 ?n2 ?_)
                case hb => exact (HB.out.alloc HB.out.size _).size
                case o1 => intro u hu; simp only [List.mem_cons, List.not_mem_nil, or_false] at hu; rcases hu with rfl | rfl <;> rfl
                case n1 => unfold maxLen; omega
                case n2 => omega
                intro A3 n3 c3 w3 hn3 o3 g3 k3
                subst hn3
                have HB3 := hide (show Below w.heap.size w w3 from (HB.out.alloc HB.out.size _).grown g3 (HB.out.alloc HB.out.size _).size (fun j hj => (HO.out.lt j hj).1))
                have HX3 := hide ((HX.out.alloc (.cells #[.int .i64 3, .int .i64 k] 31)).grown g3 (fun j hj => (HO.out.alloc (.cells #[.int .i64 3, .int .i64 k] 31)).box (HX.out.alloc _) (by decide) j hj))
                have HO3 := hide (show Row w3 w.heap.size 31 2 A3 (L ++ [((3 : Int), (k : Int))]).length c3 (cellsOf CWarnings.warningC (L ++ [((3 : Int), (k : Int))])) by rw [List.length_append]; simpa [cellsOf, CWarnings.warningC] using o3)
                clear o3 g3 k3 HO HB HX
                go_wp2_with fail
                refine ⟨⟨k + 1, A3, c3, L ++ [(3, (k : Int))], by omega, by go_num, by simp, by rw [HU.out, HA.out], HO3.out, HX3.out, HB3.out⟩, by simp [intOf]; omega⟩
            · have e : k = ps.length := by omega
              subst e
              clear ho hx hb
              go_wp2_with fail
              clear x0 x1
              have HV2 := hide (show L = warns (OV.d ⟨A, c, ps, Y, yc, ys⟩) by rw [HLE.out, HP2.out]; refine Eq.trans ?_ HV.out.symm; simp [list, OV.d])
              go_ret
              exact ⟨A1, c1, by rw [← HV2.out]; rfl, by rw [← HV2.out]; exact HO.out, HB.out⟩

end Go.Proofs.Ytmglgjchemecjaa.CWarn
