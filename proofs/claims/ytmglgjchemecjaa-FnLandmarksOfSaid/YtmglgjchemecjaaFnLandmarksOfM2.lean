/- The program's and the reference's SectionValid, and what they call. -/
import Derived.Test.YtmglgjchemecjaaFnLandmarksOfM1
set_option linter.unusedSimpArgs false
set_option linter.unusedVariables false
namespace Go.Proofs.Ytmglgjchemecjaa.CSecValid
set_option maxRecDepth 200000
open Go.ChangeShapes Go.WideShapes Go.ChangeAt Go.RowKit Kit CCode CName CFixups CSymbols PObj BObj PValid
theorem isAlign_any (n : Int) (w : World) : Calls Try.prog 114 #[.int .i64 n] w (Pure (.bool (alignOk n)) w) := by
  by_cases h1 : n = 1
  · subst h1
    go_enter Try.func114, Try.ntmps114
    go_wp2
    go_ret
    exact ⟨rfl, rfl⟩
  by_cases h2 : n = 2
  · subst h2
    go_enter Try.func114, Try.ntmps114
    go_wp2
    go_ret
    exact ⟨rfl, rfl⟩
  by_cases h4 : n = 4
  · subst h4
    go_enter Try.func114, Try.ntmps114
    go_wp2
    go_ret
    exact ⟨rfl, rfl⟩
  by_cases h8 : n = 8
  · subst h8
    go_enter Try.func114, Try.ntmps114
    go_wp2
    go_ret
    exact ⟨rfl, rfl⟩
  have hv : alignOk n = false := by simp [alignOk, h1, h2, h4, h8]
  rw [hv]
  have e1 : (n == 1) = false := beq_eq_false_iff_ne.2 h1
  have e2 : (n == 2) = false := beq_eq_false_iff_ne.2 h2
  have e4 : (n == 4) = false := beq_eq_false_iff_ne.2 h4
  have e8 : (n == 8) = false := beq_eq_false_iff_ne.2 h8
  go_enter Try.func114, Try.ntmps114
  go_wp2
  go_ret
  exact ⟨rfl, rfl⟩
theorem alignUp0_any (n : Int) (w : World) : Calls Try.prog 132 #[.int .i64 0, .int .i64 n] w (Pure (.int .i64 (bif alignOk n then 0 else -1)) w) := by
  by_cases h1 : n = 1
  · subst h1
    go_enter Try.func132, Try.ntmps132
    go_wp2_with (go_at_call 110; refine (l1In_any _ _ _ _).mono ?_; rintro e w' ⟨rfl, rfl⟩; rw [inB_t (by omega)])
    go_ret
    exact ⟨rfl, rfl⟩
  by_cases h2 : n = 2
  · subst h2
    go_enter Try.func132, Try.ntmps132
    go_wp2_with (go_at_call 110; refine (l1In_any _ _ _ _).mono ?_; rintro e w' ⟨rfl, rfl⟩; rw [inB_t (by omega)])
    go_ret
    exact ⟨rfl, rfl⟩
  by_cases h4 : n = 4
  · subst h4
    go_enter Try.func132, Try.ntmps132
    go_wp2_with (go_at_call 110; refine (l1In_any _ _ _ _).mono ?_; rintro e w' ⟨rfl, rfl⟩; rw [inB_t (by omega)])
    go_ret
    exact ⟨rfl, rfl⟩
  by_cases h8 : n = 8
  · subst h8
    go_enter Try.func132, Try.ntmps132
    go_wp2_with (go_at_call 110; refine (l1In_any _ _ _ _).mono ?_; rintro e w' ⟨rfl, rfl⟩; rw [inB_t (by omega)])
    go_ret
    exact ⟨rfl, rfl⟩
  have hv : alignOk n = false := by simp [alignOk, h1, h2, h4, h8]
  rw [hv]
  have e1 : (n == 1) = false := beq_eq_false_iff_ne.2 h1
  have e2 : (n == 2) = false := beq_eq_false_iff_ne.2 h2
  have e4 : (n == 4) = false := beq_eq_false_iff_ne.2 h4
  have e8 : (n == 8) = false := beq_eq_false_iff_ne.2 h8
  have b1 : (n != 1) = true := bne_iff_ne.2 h1
  have b2 : (n != 2) = true := bne_iff_ne.2 h2
  have b4 : (n != 4) = true := bne_iff_ne.2 h4
  have b8 : (n != 8) = true := bne_iff_ne.2 h8
  go_enter Try.func132, Try.ntmps132
  go_wp2_with (go_at_call 110; refine (l1In_any _ _ _ _).mono ?_; rintro e w' ⟨rfl, rfl⟩; rw [inB_t (by omega)])
  go_ret
  exact ⟨rfl, rfl⟩
theorem fixupWide_any (k : Int) (w : World) : Calls Try.prog 49 #[.int .i64 k] w (Pure (.int .i64 (wide k)) w) := by
  by_cases h1 : k = 1
  · subst h1
    go_enter Try.func49, Try.ntmps49
    go_wp2
    go_ret
    exact ⟨rfl, rfl⟩
  by_cases h2 : k = 2
  · subst h2
    go_enter Try.func49, Try.ntmps49
    go_wp2
    go_ret
    exact ⟨rfl, rfl⟩
  by_cases h3 : k = 3
  · subst h3
    go_enter Try.func49, Try.ntmps49
    go_wp2
    go_ret
    exact ⟨rfl, rfl⟩
  have hv : wide k = 0 := by simp [wide, h1, h2, h3]
  rw [hv]
  have e1 : (k == 1) = false := beq_eq_false_iff_ne.2 h1
  have e2 : (k == 2) = false := beq_eq_false_iff_ne.2 h2
  have e3 : (k == 3) = false := beq_eq_false_iff_ne.2 h3
  go_enter Try.func49, Try.ntmps49
  go_wp2
  go_ret
  exact ⟨rfl, rfl⟩
theorem fixupWideS_any (k : Int) (w : World) : Calls Try.prog 47 #[.int .i64 k] w (Ret (.int .i64 (wide k)) w) := by
  by_cases h1 : k = 1
  · subst h1
    go_enter Try.func47, Try.ntmps47
    go_wp2_with (go_at_call 110; refine (l1In_any _ _ _ _).mono ?_; rintro e w' ⟨rfl, rfl⟩; rw [inB_t (by omega)])
    go_ret
    exact ⟨rfl, (by repeat (first | exact Below.refl _ _ | with_reducible assumption | (refine Below.drew ?_) | (refine Below.drewN ?_ _) | (refine Below.alloc ?_ (by simp; try omega) _) | (refine Below.setCell ?_ (by simp; try omega) _)))⟩
  by_cases h2 : k = 2
  · subst h2
    go_enter Try.func47, Try.ntmps47
    go_wp2_with (go_at_call 110; refine (l1In_any _ _ _ _).mono ?_; rintro e w' ⟨rfl, rfl⟩; rw [inB_t (by omega)])
    go_ret
    exact ⟨rfl, (by repeat (first | exact Below.refl _ _ | with_reducible assumption | (refine Below.drew ?_) | (refine Below.drewN ?_ _) | (refine Below.alloc ?_ (by simp; try omega) _) | (refine Below.setCell ?_ (by simp; try omega) _)))⟩
  by_cases h3 : k = 3
  · subst h3
    go_enter Try.func47, Try.ntmps47
    go_wp2_with (go_at_call 110; refine (l1In_any _ _ _ _).mono ?_; rintro e w' ⟨rfl, rfl⟩; rw [inB_t (by omega)])
    go_ret
    exact ⟨rfl, (by repeat (first | exact Below.refl _ _ | with_reducible assumption | (refine Below.drew ?_) | (refine Below.drewN ?_ _) | (refine Below.alloc ?_ (by simp; try omega) _) | (refine Below.setCell ?_ (by simp; try omega) _)))⟩
  have hv : wide k = 0 := by simp [wide, h1, h2, h3]
  rw [hv]
  go_enter Try.func47, Try.ntmps47
  go_wp2_with (go_at_call 110; refine (l1In_any _ _ _ _).mono ?_; rintro e w' ⟨rfl, rfl⟩; rw [inB_f (by omega)])
  go_ret
  exact ⟨rfl, (by repeat (first | exact Below.refl _ _ | with_reducible assumption | (refine Below.drew ?_) | (refine Below.drewN ?_ _) | (refine Below.alloc ?_ (by simp; try omega) _) | (refine Below.setCell ?_ (by simp; try omega) _)))⟩
theorem isAdd_any (n : Int) (w : World) : Calls Try.prog 139 #[.int .i64 n] w (Pure (.bool (inB n (-1000) 1000)) w) := by
  go_enter Try.func139, Try.ntmps139
  go_wp2_with fail
  refine (within_any _ _ _ _).mono ?_
  rintro e w' ⟨rfl, rfl⟩
  go_wp2_with fail
  go_ret
  exact ⟨rfl, rfl⟩
theorem sectionSize_any (p : SV) (w : World) (hz : p.zs.length ≤ maxLen) : Calls Try.prog 43 #[.agg #[.string p.nm, .int .i64 p.kd, .int .i64 p.al, .slice p.A p.zs.length p.c, .int .i64 p.sz, .slice p.F p.fs.length p.fc]] w (Ret (.int .i64 (secSize p.d)) w) := by
  unfold maxLen at hz
  by_cases h : p.kd = 3
  · have hv : secSize p.d = p.sz := if_pos h
    rw [hv, h]
    go_enter Try.func43, Try.ntmps43
    go_wp2
    go_ret
    exact ⟨rfl, (by repeat (first | exact Below.refl _ _ | with_reducible assumption | (refine Below.drew ?_) | (refine Below.drewN ?_ _) | (refine Below.alloc ?_ (by simp; try omega) _) | (refine Below.setCell ?_ (by simp; try omega) _)))⟩
  · have hv : secSize p.d = p.zs.length := if_neg h
    rw [hv]
    have e1 : (p.kd == 3) = false := beq_eq_false_iff_ne.2 h
    go_enter Try.func43, Try.ntmps43
    go_wp2
    go_ret
    exact ⟨rfl, (by repeat (first | exact Below.refl _ _ | with_reducible assumption | (refine Below.drew ?_) | (refine Below.drewN ?_ _) | (refine Below.alloc ?_ (by simp; try omega) _) | (refine Below.setCell ?_ (by simp; try omega) _)))⟩
theorem sectionSizeS_any (p : SV) (w : World) (hz : p.zs.length ≤ maxLen) : Calls Try.prog 46 #[.agg #[.string p.nm, .int .i64 p.kd, .int .i64 p.al, .slice p.A p.zs.length p.c, .int .i64 p.sz, .slice p.F p.fs.length p.fc]] w (Ret (.int .i64 (secSize p.d)) w) := by
  unfold maxLen at hz
  by_cases h : p.kd = 3
  · have hv : secSize p.d = p.sz := if_pos h
    rw [hv, h]
    go_enter Try.func46, Try.ntmps46
    go_wp2
    go_ret
    exact ⟨rfl, (by repeat (first | exact Below.refl _ _ | with_reducible assumption | (refine Below.drew ?_) | (refine Below.drewN ?_ _) | (refine Below.alloc ?_ (by simp; try omega) _) | (refine Below.setCell ?_ (by simp; try omega) _)))⟩
  · have hv : secSize p.d = p.zs.length := if_neg h
    rw [hv]
    have e1 : (p.kd == 3) = false := beq_eq_false_iff_ne.2 h
    go_enter Try.func46, Try.ntmps46
    go_wp2
    go_ret
    exact ⟨rfl, (by repeat (first | exact Below.refl _ _ | with_reducible assumption | (refine Below.drew ?_) | (refine Below.drewN ?_ _) | (refine Below.alloc ?_ (by simp; try omega) _) | (refine Below.setCell ?_ (by simp; try omega) _)))⟩
end Go.Proofs.Ytmglgjchemecjaa.CSecValid
/- The program's SectionValid. -/
namespace Go.Proofs.Ytmglgjchemecjaa.CSecValid2
set_option maxRecDepth 200000
open Go.ChangeShapes Go.WideShapes Go.ChangeAt Go.RowKit Kit CCode CName CFixups CSymbols PObj BObj PValid CSecValid
theorem sec_head {many : Int} {d : SD} (h : headOk d = false) : secOk many d = false := by rw [secOk, h]; rfl
theorem sec_blank {many : Int} {d : SD} (h : headOk d = true) (hk : d.kd = 3) : secOk many d = blankOk d := by rw [secOk, h, if_pos hk]; rfl
theorem sec_body {many : Int} {d : SD} (h : headOk d = true) (hk : ¬ d.kd = 3) : secOk many d = bodyOk many d := by rw [secOk, h, if_neg hk]; rfl
theorem sectionValid_any (p : SV) (many : Int) (w : World) (hr : RdS w w.heap.size p) (h0 : p.nm.size ≤ maxLen) (h1 : p.zs.length ≤ 1048576) (h2 : p.fs.length ≤ 1048576) :
    Calls Try.prog 82 #[.agg #[.string p.nm, .int .i64 p.kd, .int .i64 p.al, .slice p.A p.zs.length p.c, .int .i64 p.sz, .slice p.F p.fs.length p.fc], .int .i64 many] w (Ret (.bool (secOk many p.d)) w) := by
  obtain ⟨nm, kd, al, A, c, zs, sz, F, fc, fs⟩ := p
  have HR := hide hr.2
  have H0 := hide h0
  simp only [SV.d] at h0 h1 h2 ⊢
  clear hr h0
  have B0 : Below w.heap.size w (w.alloc (.cells #[.string nm, .int .i64 kd, .int .i64 al, .slice A zs.length c, .int .i64 sz, .slice F fs.length fc] 73)) := (by repeat (first | exact Below.refl _ _ | with_reducible assumption | (refine Below.drew ?_) | (refine Below.drewN ?_ _) | (refine Below.alloc ?_ (by simp; try omega) _) | (refine Below.setCell ?_ (by simp; try omega) _)))
  have X0 := Box.new w 73 #[.string nm, .int .i64 kd, .int .i64 al, .slice A zs.length c, .int .i64 sz, .slice F fs.length fc]
  have HB := hide B0
  have x0 := X0.cell 0
  have x1 := X0.cell 1
  have x2 := X0.cell 2
  have x3 := X0.cell 3
  have x4 := X0.cell 4
  have x5 := X0.cell 5
  simp only [List.getElem?_toArray, List.getElem?_cons_zero, List.getElem?_cons_succ] at x0 x1 x2 x3 x4 x5
  clear B0
  go_enter Try.func82, Try.ntmps82
  go_wp2_with fail
  generalize w.alloc (.cells #[.string nm, .int .i64 kd, .int .i64 al, .slice A zs.length c, .int .i64 sz, .slice F fs.length fc] 73) = w0 at *
  refine (nameValid_any nm H0.out w0).mono ?_
  rintro e w' ⟨rfl, rfl⟩
  cases hn : nameOk nm
  · have HV := hide (sec_head (many := many) (d := ⟨nm, kd, al, zs, sz, fs⟩) (by simp [headOk, hn]))
    go_wp2_with fail
    go_ret
    exact ⟨by rw [HV.out]; rfl, HB.out⟩
  go_wp2_with fail
  refine (within_any _ _ _ _).mono ?_
  rintro e w' ⟨rfl, rfl⟩
  cases hk : inB kd 1 3
  · have HV := hide (sec_head (many := many) (d := ⟨nm, kd, al, zs, sz, fs⟩) (by simp [headOk, hk]))
    go_wp2_with fail
    go_ret
    exact ⟨by rw [HV.out]; rfl, HB.out⟩
  go_wp2_with fail
  refine (isAlign_any _ _).mono ?_
  rintro e w' ⟨rfl, rfl⟩
  cases ha : alignOk al
  · have HV := hide (sec_head (many := many) (d := ⟨nm, kd, al, zs, sz, fs⟩) (by simp [headOk, ha]))
    go_wp2_with fail
    go_ret
    exact ⟨by rw [HV.out]; rfl, HB.out⟩
  have hh : headOk ⟨nm, kd, al, zs, sz, fs⟩ = true := by simp [headOk, hn, hk, ha]
  by_cases hk3 : kd = 3
  · have HV := hide ((sec_blank (many := many) hh hk3).trans (show blankOk ⟨nm, kd, al, zs, sz, fs⟩ = (inB sz 0 48 && decide (zs.length = 0) && decide (fs.length = 0)) from rfl))
    clear hn hk ha hh
    have e3 : (kd == 3) = true := beq_iff_eq.2 hk3
    clear hk3
    go_wp2_with fail
    refine (within_any _ _ _ _).mono ?_
    rintro e w' ⟨rfl, rfl⟩
    cases hs : inB sz 0 48
    · rw [hs] at HV
      go_wp2_with fail
      go_ret
      exact ⟨by rw [HV.out]; rfl, HB.out⟩
    · rw [hs] at HV
      clear hs
      by_cases hz : zs.length = 0
      · have ez : ((zs.length : Int) == 0) = true := by rw [hz]; rfl
        rw [decide_eq_true hz] at HV
        by_cases hf : fs.length = 0
        · have ef : ((fs.length : Int) == 0) = true := by rw [hf]; rfl
          rw [decide_eq_true hf] at HV
          clear hz hf
          go_wp2_with fail
          go_ret
          exact ⟨by rw [HV.out]; rfl, HB.out⟩
        · have ef : ((fs.length : Int) == 0) = false := beq_eq_false_iff_ne.2 (by omega)
          rw [decide_eq_false hf] at HV
          clear hz hf
          go_wp2_with fail
          go_ret
          exact ⟨by rw [HV.out]; rfl, HB.out⟩
      · have ez : ((zs.length : Int) == 0) = false := beq_eq_false_iff_ne.2 (by omega)
        rw [decide_eq_false hz] at HV
        clear hz
        go_wp2_with fail
        go_ret
        exact ⟨by rw [HV.out]; simp, HB.out⟩
  have HV := hide ((sec_body (many := many) hh hk3).trans (show bodyOk many ⟨nm, kd, al, zs, sz, fs⟩ = (decide (sz = 0) && decide (zs.length ≤ 48) && decide (fs.length ≤ 6) && fixesOk many zs.length 0 fs) from rfl))
  have e3 : (kd == 3) = false := beq_eq_false_iff_ne.2 hk3
  clear hn hk ha hh hk3
  by_cases hs : sz = 0
  · have es : (sz != 0) = false := by rw [hs]; rfl
    rw [decide_eq_true hs] at HV
    by_cases hz : zs.length ≤ 48
    · have ez : decide ((48 : Int) < zs.length) = false := decide_eq_false (by omega)
      rw [decide_eq_true hz] at HV
      by_cases hf : fs.length ≤ 6
      · have ef : decide ((6 : Int) < fs.length) = false := decide_eq_false (by omega)
        rw [decide_eq_true hf] at HV
        have HV' := hide (HV.out.trans (show (true && true && true && fixesOk many zs.length 0 fs) = fixesOk many zs.length 0 fs by simp))
        clear HV hs
        go_wp2_with fail
        clear x0 x1 x2 x4 e3 es ez ef
        go_loopw [5, 61] (fun en ix wi => ∃ (k : Nat) (e : Int), k ≤ fs.length ∧ ix = .int .i64 k ∧ en = .int .i64 e ∧ 0 ≤ e ∧ e ≤ 48 ∧ fixesOk many zs.length 0 fs = fixesOk many zs.length e (fs.drop k) ∧ Box wi w.heap.size 73 #[.string nm, .int .i64 kd, .int .i64 al, .slice A zs.length c, .int .i64 sz, .slice F fs.length fc] ∧ Below w.heap.size w wi) (fun _ ix _ => fs.length - (intOf ix).toNat)
        case atStart => exact ⟨0, 0, Nat.zero_le _, rfl, rfl, by omega, by omega, rfl, X0, HB.out⟩
        case round =>
          obtain ⟨k, e, hk, rfl, rfl, he0, he1, hfx, hbx, hb⟩ := hrel
          have HBX := hide hbx
          have HBI := hide hb
          clear X0 HB x3 x5
          by_cases hlt : k < fs.length
          · obtain ⟨b, off, rfl, hbg, hc⟩ := (HR.out.below hb).row fixupC_len (by decide) hlt
            have hc0 := hc 0 _ rfl
            have hc1 := hc 1 _ rfl
            have hc2 := hc 2 _ rfl
            have hc3 := hc 3 _ rfl
            simp only [Nat.add_zero] at hc0
            have HFX := hide (hfx.trans (fixes_drop hlt))
            have HIF := hide (fixOk_iff (many := many) (n := zs.length) (e := e) (f := fs[k]))
            clear hfx hc hbx hb
            generalize fs[k] = f at *
            go_wp2_with fail
            have X1 := HBX.out.alloc (.cells #[.int .i64 f.1, .int .i64 f.2.1, .int .i64 f.2.2.1, .int .i64 f.2.2.2] 77)
            have Z1 := Box.new wr 77 #[.int .i64 f.1, .int .i64 f.2.1, .int .i64 f.2.2.1, .int .i64 f.2.2.2]
            have HB1 := hide (HBI.out.alloc HBI.out.size (.cells #[.int .i64 f.1, .int .i64 f.2.1, .int .i64 f.2.2.1, .int .i64 f.2.2.2] 77))
            generalize wr.alloc (.cells #[.int .i64 f.1, .int .i64 f.2.1, .int .i64 f.2.2.1, .int .i64 f.2.2.2] 77) = w1 at *
            generalize wr.heap.size = X at *
            have z0 := Z1.cell 0
            have z1 := Z1.cell 1
            have z2 := Z1.cell 2
            have z3 := Z1.cell 3
            have x3 := X1.cell 3
            simp only [List.getElem?_toArray, List.getElem?_cons_zero, List.getElem?_cons_succ] at z0 z1 z2 z3 x3
            have HX1 := hide X1
            clear HBX HBI X1 Z1 hc0 hc1 hc2 hc3
            refine (fixupWide_any _ _).mono ?_
            rintro e' w' ⟨rfl, rfl⟩
            have hwd := wide_bd f.2.1
            generalize hwg : wide f.2.1 = wd at *
            have HWG := hide hwg
            clear hwg
            by_cases g1 : wd = 0
            · have HN := hide (show fixOk many zs.length e f = false by rw [← Bool.not_eq_true, HIF.out]; omega)
              have e1 : (wd == 0) = true := beq_iff_eq.2 g1
              clear HIF g1 hwd
              go_wp2_with fail
              go_ret
              exact ⟨by rw [HV'.out, HFX.out, HN.out]; rfl, HB1.out⟩
            have e1 : (wd == 0) = false := beq_eq_false_iff_ne.2 g1
            by_cases g2 : f.2.2.1 < 0
            · have HN := hide (show fixOk many zs.length e f = false by rw [← Bool.not_eq_true, HIF.out]; omega)
              clear HIF g1
              go_wp2_with fail
              go_ret
              exact ⟨by rw [HV'.out, HFX.out, HN.out]; rfl, HB1.out⟩
            have e2 : decide (f.2.2.1 < 0) = false := decide_eq_false g2
            by_cases g3 : many ≤ f.2.2.1
            · have HN := hide (show fixOk many zs.length e f = false by rw [← Bool.not_eq_true, HIF.out]; omega)
              clear HIF g1 g2
              go_wp2_with fail
              go_ret
              exact ⟨by rw [HV'.out, HFX.out, HN.out]; rfl, HB1.out⟩
            have e3 : decide (many ≤ f.2.2.1) = false := decide_eq_false g3
            go_wp2_with fail
            refine (isAdd_any _ _).mono ?_
            rintro e' w' ⟨rfl, rfl⟩
            by_cases g4 : -1000 ≤ f.2.2.2 ∧ f.2.2.2 ≤ 1000
            · rw [inB_t g4]
              go_wp2_with fail
              refine (within_any _ _ _ _).mono ?_
              rintro e' w' ⟨rfl, rfl⟩
              by_cases g5 : e ≤ f.1 ∧ f.1 ≤ zs.length - wd
              · rw [inB_t g5]
                have HY := hide (show fixOk many zs.length e f = true by rw [HIF.out]; omega)
                have HS := hide (show fixesOk many zs.length 0 fs = fixesOk many zs.length (f.1 + wd) (fs.drop (k + 1)) by rw [HFX.out, HY.out]; rfl)
                have hbd : 0 ≤ f.1 + wd ∧ f.1 + wd ≤ 48 := by omega
                clear HIF g1 g2 g3 g4 HFX HY
                go_wp2_with fail
                refine ⟨⟨k + 1, f.1 + wd, by omega, by go_num, rfl, hbd.1, hbd.2, HS.out, HX1.out, HB1.out⟩, by simp [intOf]; omega⟩
              · rw [inB_f g5]
                have HN := hide (show fixOk many zs.length e f = false by rw [← Bool.not_eq_true, HIF.out]; omega)
                clear HIF g1 g2 g3 g4 g5
                go_wp2_with fail
                go_ret
                exact ⟨by rw [HV'.out, HFX.out, HN.out]; rfl, HB1.out⟩
            · rw [inB_f g4]
              have HN := hide (show fixOk many zs.length e f = false by rw [← Bool.not_eq_true, HIF.out]; omega)
              clear HIF g1 g2 g3 g4
              go_wp2_with fail
              go_ret
              exact ⟨by rw [HV'.out, HFX.out, HN.out]; rfl, HB1.out⟩
          · have hE : fixesOk many zs.length 0 fs = true := by
              rw [hfx, List.drop_of_length_le (by omega)]
              rfl
            have HE := hide hE
            clear hE hfx hbx hb
            go_wp2_with fail
            go_ret
            exact ⟨by rw [HV'.out, HE.out]; rfl, HBI.out⟩
      · have ef : decide ((6 : Int) < fs.length) = true := decide_eq_true (by omega)
        rw [decide_eq_false hf] at HV
        clear hs hz hf
        go_wp2_with fail
        go_ret
        exact ⟨by rw [HV.out]; simp, HB.out⟩
    · have ez : decide ((48 : Int) < zs.length) = true := decide_eq_true (by omega)
      rw [decide_eq_false hz] at HV
      clear hs hz
      go_wp2_with fail
      go_ret
      exact ⟨by rw [HV.out]; simp, HB.out⟩
  · have es : (sz != 0) = true := bne_iff_ne.2 hs
    rw [decide_eq_false hs] at HV
    clear hs
    go_wp2_with fail
    go_ret
    exact ⟨by rw [HV.out]; simp, HB.out⟩
end Go.Proofs.Ytmglgjchemecjaa.CSecValid2
/- The reference's SectionValid. -/
namespace Go.Proofs.Ytmglgjchemecjaa.CSecValid3
set_option maxRecDepth 200000
open Go.ChangeShapes Go.WideShapes Go.ChangeAt Go.RowKit Kit CCode CName CFixups CSymbols PObj BObj PValid CSecValid CSecValid2
theorem sec_big {many : Int} {d : SD} (h : ¬ d.zs.length ≤ 48 ∨ ¬ d.fs.length ≤ 6 ∨ inB d.sz 0 48 = false) : secOk many d = false := by
  rw [← Bool.not_eq_true]
  intro ht
  rw [secOk, Bool.and_eq_true] at ht
  obtain ⟨_, ht⟩ := ht
  split at ht
  · simp only [blankOk, Bool.and_eq_true, decide_eq_true_eq] at ht
    rcases h with h | h | h
    · omega
    · omega
    · rw [h] at ht
      exact absurd ht.1.1 (by decide)
  · simp only [bodyOk, Bool.and_eq_true, decide_eq_true_eq] at ht
    rcases h with h | h | h
    · omega
    · omega
    · rw [ht.1.1.1] at h
      exact absurd h (by decide)
theorem sectionValidS_any (p : SV) (many : Int) (w : World) (hr : RdS w w.heap.size p) (h0 : p.nm.size ≤ maxLen) (h1 : p.zs.length ≤ 1048576) (h2 : p.fs.length ≤ 1048576) :
    Calls Try.prog 74 #[.agg #[.string p.nm, .int .i64 p.kd, .int .i64 p.al, .slice p.A p.zs.length p.c, .int .i64 p.sz, .slice p.F p.fs.length p.fc], .int .i64 many] w (Ret (.bool (secOk many p.d)) w) := by
  obtain ⟨nm, kd, al, A, c, zs, sz, F, fc, fs⟩ := p
  have HR := hide hr.2
  have H0 := hide h0
  simp only [SV.d] at h0 h1 h2 ⊢
  clear hr h0
  have B0 : Below w.heap.size w (w.alloc (.cells #[.string nm, .int .i64 kd, .int .i64 al, .slice A zs.length c, .int .i64 sz, .slice F fs.length fc] 73)) := (by repeat (first | exact Below.refl _ _ | with_reducible assumption | (refine Below.drew ?_) | (refine Below.drewN ?_ _) | (refine Below.alloc ?_ (by simp; try omega) _) | (refine Below.setCell ?_ (by simp; try omega) _)))
  have X0 := Box.new w 73 #[.string nm, .int .i64 kd, .int .i64 al, .slice A zs.length c, .int .i64 sz, .slice F fs.length fc]
  have HB := hide B0
  have x0 := X0.cell 0
  have x1 := X0.cell 1
  have x2 := X0.cell 2
  have x3 := X0.cell 3
  have x4 := X0.cell 4
  have x5 := X0.cell 5
  simp only [List.getElem?_toArray, List.getElem?_cons_zero, List.getElem?_cons_succ] at x0 x1 x2 x3 x4 x5
  clear B0
  go_enter Try.func74, Try.ntmps74
  go_wp2_with fail
  generalize w.alloc (.cells #[.string nm, .int .i64 kd, .int .i64 al, .slice A zs.length c, .int .i64 sz, .slice F fs.length fc] 73) = w0 at *
  refine (nameValidS_any nm H0.out w0).mono ?_
  rintro e w' ⟨rfl, rfl⟩
  cases hn : nameOk nm
  · have HV := hide (sec_head (many := many) (d := ⟨nm, kd, al, zs, sz, fs⟩) (by simp [headOk, hn]))
    go_wp2_with fail
    go_ret
    exact ⟨by rw [HV.out]; rfl, HB.out⟩
  go_wp2_with fail
  refine (l1In_any _ _ _ _).mono ?_
  rintro e w' ⟨rfl, rfl⟩
  cases hk : inB kd 1 3
  · have HV := hide (sec_head (many := many) (d := ⟨nm, kd, al, zs, sz, fs⟩) (by simp [headOk, hk]))
    go_wp2_with fail
    go_ret
    exact ⟨by rw [HV.out]; rfl, HB.out⟩
  go_wp2_with fail
  refine (alignUp0_any _ _).mono ?_
  rintro e w' ⟨rfl, rfl⟩
  cases ha : alignOk al
  · have HV := hide (sec_head (many := many) (d := ⟨nm, kd, al, zs, sz, fs⟩) (by simp [headOk, ha]))
    simp only [cond_false]
    go_wp2_with fail
    go_ret
    exact ⟨by rw [HV.out]; rfl, HB.out⟩
  simp only [cond_true]
  have hh : headOk ⟨nm, kd, al, zs, sz, fs⟩ = true := by simp [headOk, hn, hk, ha]
  clear hn hk ha
  by_cases hz : zs.length ≤ 48
  case neg =>
    have HV := hide (sec_big (many := many) (d := ⟨nm, kd, al, zs, sz, fs⟩) (.inl hz))
    have ez : decide ((48 : Int) < zs.length) = true := decide_eq_true (by omega)
    clear hz
    go_wp2_with fail
    go_ret
    exact ⟨by rw [HV.out]; rfl, HB.out⟩
  have ez : decide ((48 : Int) < zs.length) = false := decide_eq_false (by omega)
  by_cases hf : fs.length ≤ 6
  case neg =>
    have HV := hide (sec_big (many := many) (d := ⟨nm, kd, al, zs, sz, fs⟩) (.inr (.inl hf)))
    have ef : decide ((6 : Int) < fs.length) = true := decide_eq_true (by omega)
    clear hf
    go_wp2_with fail
    go_ret
    exact ⟨by rw [HV.out]; rfl, HB.out⟩
  have ef : decide ((6 : Int) < fs.length) = false := decide_eq_false (by omega)
  have HHH := hide hh
  clear hh
  go_wp2_with fail
  refine (l1In_any _ _ _ _).mono ?_
  rintro e w' ⟨rfl, rfl⟩
  cases hs : inB sz 0 48
  · have HV := hide (sec_big (many := many) (d := ⟨nm, kd, al, zs, sz, fs⟩) (.inr (.inr hs)))
    clear hs
    go_wp2_with fail
    go_ret
    exact ⟨by rw [HV.out]; rfl, HB.out⟩
  by_cases hk3 : kd = 3
  · have HV := hide ((sec_blank (many := many) HHH.out hk3).trans (show blankOk ⟨nm, kd, al, zs, sz, fs⟩ = (inB sz 0 48 && decide (zs.length = 0) && decide (fs.length = 0)) from rfl))
    rw [hs] at HV
    have e3 : (kd == 3) = true := beq_iff_eq.2 hk3
    clear hk3 hs
    by_cases hz : zs.length = 0
    · have ez : ((zs.length : Int) == 0) = true := by rw [hz]; rfl
      rw [decide_eq_true hz] at HV
      by_cases hf : fs.length = 0
      · have ef : ((fs.length : Int) == 0) = true := by rw [hf]; rfl
        rw [decide_eq_true hf] at HV
        clear hz hf
        go_wp2_with fail
        go_ret
        exact ⟨by rw [HV.out]; rfl, HB.out⟩
      · have ef : ((fs.length : Int) == 0) = false := beq_eq_false_iff_ne.2 (by omega)
        rw [decide_eq_false hf] at HV
        clear hz hf
        go_wp2_with fail
        go_ret
        exact ⟨by rw [HV.out]; rfl, HB.out⟩
    · have ez : ((zs.length : Int) == 0) = false := beq_eq_false_iff_ne.2 (by omega)
      rw [decide_eq_false hz] at HV
      clear hz
      go_wp2_with fail
      go_ret
      exact ⟨by rw [HV.out]; simp, HB.out⟩
  · have hV := (sec_body (many := many) HHH.out hk3).trans (show bodyOk many ⟨nm, kd, al, zs, sz, fs⟩ = (decide (sz = 0) && decide (zs.length ≤ 48) && decide (fs.length ≤ 6) && fixesOk many zs.length 0 fs) from rfl)
    have HFF := hide (fun (h : fixesOk many zs.length 0 fs = false) => (show secOk many ⟨nm, kd, al, zs, sz, fs⟩ = false by rw [hV, h, Bool.and_false]))
    have HTT := hide (fun (h : fixesOk many zs.length 0 fs = true) => (show secOk many ⟨nm, kd, al, zs, sz, fs⟩ = decide (sz = 0) by rw [hV, h, decide_eq_true hz, decide_eq_true hf, Bool.and_true, Bool.and_true, Bool.and_true]))
    have e3 : (kd == 3) = false := beq_eq_false_iff_ne.2 hk3
    clear hk3 hV hs ez ef HHH
    go_wp2_with fail
    clear x0 x1 x2 x3 x4 x5 e3
    go_loopw [5, 6] (fun en ix wi => ∃ (k : Nat) (e : Int), k ≤ fs.length ∧ ix = .int .i64 k ∧ en = .int .i64 e ∧ 0 ≤ e ∧ e ≤ 48 ∧ fixesOk many zs.length 0 fs = fixesOk many zs.length e (fs.drop k) ∧ Box wi w.heap.size 73 #[.string nm, .int .i64 kd, .int .i64 al, .slice A zs.length c, .int .i64 sz, .slice F fs.length fc] ∧ Below w.heap.size w wi) (fun _ ix _ => fs.length - (intOf ix).toNat)
    case atStart => exact ⟨0, 0, Nat.zero_le _, rfl, rfl, by omega, by omega, rfl, X0, HB.out⟩
    case round =>
      obtain ⟨k, e, hk, rfl, rfl, he0, he1, hfx, hbx, hb⟩ := hrel
      have HBX := hide hbx
      have HBI := hide hb
      have x5 := hbx.cell 5
      have x4 := hbx.cell 4
      simp only [List.getElem?_toArray, List.getElem?_cons_zero, List.getElem?_cons_succ] at x4 x5
      clear X0 HB
      by_cases hlt : k < fs.length
      · obtain ⟨b, off, rfl, hbg, hc⟩ := (HR.out.below hb).row fixupC_len (by decide) hlt
        have hc0 := hc 0 _ rfl
        have hc1 := hc 1 _ rfl
        have hc2 := hc 2 _ rfl
        have hc3 := hc 3 _ rfl
        simp only [Nat.add_zero] at hc0
        have HFX := hide (hfx.trans (fixes_drop hlt))
        have HIF := hide (fixOk_iff (many := many) (n := zs.length) (e := e) (f := fs[k]))
        clear hfx hc hbx hb
        generalize fs[k] = f at *
        go_wp2_with fail
        have X1 := HBX.out.alloc (.cells #[.int .i64 f.1, .int .i64 f.2.1, .int .i64 f.2.2.1, .int .i64 f.2.2.2] 77)
        have Z1 := Box.new wr 77 #[.int .i64 f.1, .int .i64 f.2.1, .int .i64 f.2.2.1, .int .i64 f.2.2.2]
        have HB1 := hide (HBI.out.alloc HBI.out.size (.cells #[.int .i64 f.1, .int .i64 f.2.1, .int .i64 f.2.2.1, .int .i64 f.2.2.2] 77))
        generalize wr.alloc (.cells #[.int .i64 f.1, .int .i64 f.2.1, .int .i64 f.2.2.1, .int .i64 f.2.2.2] 77) = w1 at *
        generalize wr.heap.size = X at *
        have z0 := Z1.cell 0
        have z1 := Z1.cell 1
        have z2 := Z1.cell 2
        have z3 := Z1.cell 3
        have x3 := X1.cell 3
        simp only [List.getElem?_toArray, List.getElem?_cons_zero, List.getElem?_cons_succ] at z0 z1 z2 z3 x3
        have HX1 := hide X1
        have HZ1 := hide Z1
        clear HBX HBI X1 Z1 hc0 hc1 hc2 hc3 x4 x5
        refine (fixupWideS_any _ _).mono ?_
        rintro e' w2 ⟨rfl, b2⟩
        have X2 := HX1.out.call b2
        have Z2 := HZ1.out.call b2
        have HB2 := hide (HB1.out.trans (b2.mono HB1.out.size))
        have HX2 := hide X2
        clear z0 z1 z2 z3 x3 b2 HX1 HZ1 HB1
        have z0 := Z2.cell 0
        have z1 := Z2.cell 1
        have z2 := Z2.cell 2
        have z3 := Z2.cell 3
        have x3 := X2.cell 3
        simp only [List.getElem?_toArray, List.getElem?_cons_zero, List.getElem?_cons_succ] at z0 z1 z2 z3 x3
        clear X2 Z2
        have hwd := wide_bd f.2.1
        generalize hwg : wide f.2.1 = wd at *
        have HWG := hide hwg
        clear hwg
        by_cases g1 : wd = 0
        · have HN := hide (show fixOk many zs.length e f = false by rw [← Bool.not_eq_true, HIF.out]; omega)
          have e1 : (wd == 0) = true := beq_iff_eq.2 g1
          clear HIF g1 hwd
          go_wp2_with fail
          go_ret
          exact ⟨by rw [HFF.out (by rw [HFX.out, HN.out]; rfl)]; rfl, HB2.out⟩
        have e1 : (wd == 0) = false := beq_eq_false_iff_ne.2 g1
        by_cases g2 : f.2.2.1 < 0
        · have HN := hide (show fixOk many zs.length e f = false by rw [← Bool.not_eq_true, HIF.out]; omega)
          clear HIF g1
          go_wp2_with fail
          go_ret
          exact ⟨by rw [HFF.out (by rw [HFX.out, HN.out]; rfl)]; rfl, HB2.out⟩
        have e2 : decide (f.2.2.1 < 0) = false := decide_eq_false g2
        by_cases g3 : many ≤ f.2.2.1
        · have HN := hide (show fixOk many zs.length e f = false by rw [← Bool.not_eq_true, HIF.out]; omega)
          clear HIF g1 g2
          go_wp2_with fail
          go_ret
          exact ⟨by rw [HFF.out (by rw [HFX.out, HN.out]; rfl)]; rfl, HB2.out⟩
        have e3 : decide (many ≤ f.2.2.1) = false := decide_eq_false g3
        go_wp2_with fail
        refine (l1In_any _ _ _ _).mono ?_
        rintro e' w' ⟨rfl, rfl⟩
        by_cases g4 : -1000 ≤ f.2.2.2 ∧ f.2.2.2 ≤ 1000
        · rw [inB_t g4]
          go_wp2_with fail
          refine (l1In_any _ _ _ _).mono ?_
          rintro e' w' ⟨rfl, rfl⟩
          by_cases g5 : e ≤ f.1 ∧ f.1 ≤ zs.length - wd
          · rw [inB_t g5]
            have HY := hide (show fixOk many zs.length e f = true by rw [HIF.out]; omega)
            have HS := hide (show fixesOk many zs.length 0 fs = fixesOk many zs.length (f.1 + wd) (fs.drop (k + 1)) by rw [HFX.out, HY.out]; rfl)
            have hbd : 0 ≤ f.1 + wd ∧ f.1 + wd ≤ 48 := by omega
            clear HIF g1 g2 g3 g4 HFX HY
            go_wp2_with fail
            refine ⟨⟨k + 1, f.1 + wd, by omega, by go_num, rfl, hbd.1, hbd.2, HS.out, HX2.out, HB2.out⟩, by simp [intOf]; omega⟩
          · rw [inB_f g5]
            have HN := hide (show fixOk many zs.length e f = false by rw [← Bool.not_eq_true, HIF.out]; omega)
            clear HIF g1 g2 g3 g4 g5
            go_wp2_with fail
            go_ret
            exact ⟨by rw [HFF.out (by rw [HFX.out, HN.out]; rfl)]; rfl, HB2.out⟩
        · rw [inB_f g4]
          have HN := hide (show fixOk many zs.length e f = false by rw [← Bool.not_eq_true, HIF.out]; omega)
          clear HIF g1 g2 g3 g4
          go_wp2_with fail
          go_ret
          exact ⟨by rw [HFF.out (by rw [HFX.out, HN.out]; rfl)]; rfl, HB2.out⟩
      · have hE : fixesOk many zs.length 0 fs = true := by
          rw [hfx, List.drop_of_length_le (by omega)]
          rfl
        have HE := hide (HTT.out hE)
        clear hE hfx hbx hb
        by_cases hs : sz = 0
        · have es : (sz == 0) = true := beq_iff_eq.2 hs
          rw [decide_eq_true hs] at HE
          clear hs
          go_wp2_with fail
          go_ret
          exact ⟨by rw [HE.out]; rfl, HBI.out⟩
        · have es : (sz == 0) = false := beq_eq_false_iff_ne.2 hs
          rw [decide_eq_false hs] at HE
          clear hs
          go_wp2_with fail
          go_ret
          exact ⟨by rw [HE.out]; rfl, HBI.out⟩
end Go.Proofs.Ytmglgjchemecjaa.CSecValid3
/- The program's and the reference's SymbolValid. -/
namespace Go.Proofs.Ytmglgjchemecjaa.CSymValid
set_option maxRecDepth 200000
open Go.ChangeShapes Go.WideShapes Go.ChangeAt Go.RowKit Kit CCode CName CFixups CSymbols PObj BObj PValid CSecValid
theorem sym_bind {ss : List SD} {y : YD} (h : bindOk y = false) : symOk ss y = false := by rw [symOk, h]; rfl
theorem sym_place {ss : List SD} {y : YD} (h : bindOk y = true) : symOk ss y = placeOk ss y := by rw [symOk, h]; rfl
set_option maxHeartbeats 1000000 in
theorem symbolValid_any (y : YD) (A : Option Addr) (ps : List SV) (c : Nat) (w : World) (hr : Rd w w.heap.size A (cellsOf secC ps)) (hn : ps.length ≤ 1048576) (h0 : y.1.size ≤ maxLen) (hz : ∀ p ∈ ps, p.zs.length ≤ maxLen) :
    Calls Try.prog 83 #[.agg #[.string y.1, .int .i64 y.2.1, .int .i64 y.2.2.1, .int .i64 y.2.2.2], .slice A ps.length c] w (Ret (.bool (symOk (ps.map SV.d) y)) w) := by
  obtain ⟨nm, bd, wh, vl⟩ := y
  have HR := hide hr
  have H0 := hide h0
  simp only at h0 ⊢
  clear hr h0
  have B0 : Below w.heap.size w (w.alloc (.cells #[.string nm, .int .i64 bd, .int .i64 wh, .int .i64 vl] 69)) := (by repeat (first | exact Below.refl _ _ | with_reducible assumption | (refine Below.drew ?_) | (refine Below.drewN ?_ _) | (refine Below.alloc ?_ (by simp; try omega) _) | (refine Below.setCell ?_ (by simp; try omega) _)))
  have X0 := Box.new w 69 #[.string nm, .int .i64 bd, .int .i64 wh, .int .i64 vl]
  have HB := hide B0
  have x0 := X0.cell 0
  have x1 := X0.cell 1
  have x2 := X0.cell 2
  have x3 := X0.cell 3
  simp only [List.getElem?_toArray, List.getElem?_cons_zero, List.getElem?_cons_succ] at x0 x1 x2 x3
  clear B0
  go_enter Try.func83, Try.ntmps83
  go_wp2_with fail
  generalize w.alloc (.cells #[.string nm, .int .i64 bd, .int .i64 wh, .int .i64 vl] 69) = w0 at *
  refine (nameValid_any nm H0.out w0).mono ?_
  rintro e w' ⟨rfl, rfl⟩
  cases hn1 : nameOk nm
  · have HV := hide (sym_bind (ss := ps.map SV.d) (y := (nm, bd, wh, vl)) (by simp [bindOk, hn1]))
    go_wp2_with fail
    go_ret
    exact ⟨by rw [HV.out]; rfl, HB.out⟩
  go_wp2_with fail
  refine (within_any _ _ _ _).mono ?_
  rintro e w' ⟨rfl, rfl⟩
  cases hb1 : inB bd 0 2
  · have HV := hide (sym_bind (ss := ps.map SV.d) (y := (nm, bd, wh, vl)) (by simp [bindOk, hb1]))
    go_wp2_with fail
    go_ret
    exact ⟨by rw [HV.out]; rfl, HB.out⟩
  have HV := hide (sym_place (ss := ps.map SV.d) (y := (nm, bd, wh, vl)) (by simp [bindOk, hn1, hb1]))
  clear hn1 hb1
  by_cases h1 : wh = -1
  · have hp : placeOk (ps.map SV.d) (nm, bd, wh, vl) = (decide (vl = 0) && !decide (bd = 0)) := by simp only [placeOk]; rw [if_pos h1]
    have e1 : (wh == -1) = true := beq_iff_eq.2 h1
    rw [hp] at HV
    clear hp h1
    by_cases h2 : vl = 0
    · have e2 : (vl == 0) = true := beq_iff_eq.2 h2
      rw [decide_eq_true h2] at HV
      clear h2
      by_cases h3 : bd = 0
      · have e3 : (bd != 0) = false := by rw [h3]; rfl
        rw [decide_eq_true h3] at HV
        clear h3
        go_wp2_with fail
        go_ret
        exact ⟨by rw [HV.out]; rfl, HB.out⟩
      · have e3 : (bd != 0) = true := bne_iff_ne.2 h3
        rw [decide_eq_false h3] at HV
        clear h3
        go_wp2_with fail
        go_ret
        exact ⟨by rw [HV.out]; rfl, HB.out⟩
    · have e2 : (vl == 0) = false := beq_eq_false_iff_ne.2 h2
      rw [decide_eq_false h2, Bool.false_and] at HV
      clear h2
      go_wp2_with fail
      go_ret
      exact ⟨by rw [HV.out]; rfl, HB.out⟩
  have e1 : (wh == -1) = false := beq_eq_false_iff_ne.2 h1
  by_cases h2 : wh = -2
  · have hp : placeOk (ps.map SV.d) (nm, bd, wh, vl) = inB vl 0 60000 := by simp only [placeOk]; rw [if_neg h1, if_pos h2]
    have e2 : (wh == -2) = true := beq_iff_eq.2 h2
    rw [hp] at HV
    clear hp h1 h2
    go_wp2_with fail
    refine (within_any _ _ _ _).mono ?_
    rintro e w' ⟨rfl, rfl⟩
    generalize inB vl 0 60000 = bb at *
    go_wp2_with fail
    go_ret
    exact ⟨by rw [HV.out]; rfl, HB.out⟩
  have e2 : (wh == -2) = false := beq_eq_false_iff_ne.2 h2
  have hp : placeOk (ps.map SV.d) (nm, bd, wh, vl) = (inB wh 0 ((ps.length : Int) - 1) && inB vl 0 (secSize ((ps.map SV.d).getD wh.toNat ⟨ByteArray.empty, 0, 0, [], 0, []⟩))) := by simp only [placeOk]; rw [if_neg h1, if_neg h2, List.length_map]
  rw [hp] at HV
  clear hp h1 h2
  have hwr : IntKind.i64.wrap ((ps.length : Int) - 1) = (ps.length : Int) - 1 := IntWalk.i64_in _ (by omega)
  go_wp2_with fail
  by_cases hw : 0 ≤ wh ∧ wh ≤ (ps.length : Int) - 1
  · obtain ⟨k, rfl⟩ := Int.eq_ofNat_of_zero_le hw.1
    have hlt : k < ps.length := by omega
    have hgd : (ps.map SV.d).getD (k : Int).toNat ⟨ByteArray.empty, 0, 0, [], 0, []⟩ = ps[k].d := by
      rw [Int.toNat_natCast, List.getD_eq_getElem?_getD, List.getElem?_map, List.getElem?_eq_getElem hlt]
      rfl
    rw [hgd, inB_t hw, Bool.true_and] at HV
    have HIN := hide (inB_t hw)
    obtain ⟨b, off, rfl, hbg, hc⟩ := ((HR.out.below HB.out).more HB.out.size).row secC_len (by decide) hlt
    have hc0 := hc 0 _ rfl
    have hc1 := hc 1 _ rfl
    have hc2 := hc 2 _ rfl
    have hc3 := hc 3 _ rfl
    have hc4 := hc 4 _ rfl
    have hc5 := hc 5 _ rfl
    simp only [Nat.add_zero] at hc0
    have HM := hide (hz _ (List.getElem_mem hlt))
    clear hc hgd hw hz
    generalize ps[k] = p at *
    have HX0 := hide X0
    have hSS : ∀ V : World, Below w0.heap.size w0 V → (V.cell? ⟨w.heap.size, 2, none⟩ = some (.int .i64 k) ∧ V.cell? ⟨w.heap.size, 3, none⟩ = some (.int .i64 vl) ∧ V.cell? ⟨b, off + k * 6, none⟩ = some (.string p.nm) ∧ V.cell? ⟨b, off + k * 6 + 1, none⟩ = some (.int .i64 p.kd) ∧ V.cell? ⟨b, off + k * 6 + 2, none⟩ = some (.int .i64 p.al) ∧ V.cell? ⟨b, off + k * 6 + 3, none⟩ = some (.slice p.A p.zs.length p.c) ∧ V.cell? ⟨b, off + k * 6 + 4, none⟩ = some (.int .i64 p.sz) ∧ V.cell? ⟨b, off + k * 6 + 5, none⟩ = some (.slice p.F p.fs.length p.fc)) := by
      intro V hV
      have hl := HX0.out.lt
      exact ⟨(hV.cell (p := ⟨w.heap.size, 2, none⟩) hl).trans x2, (hV.cell (p := ⟨w.heap.size, 3, none⟩) hl).trans x3, (hV.cell (p := ⟨b, off + k * 6, none⟩) hbg).trans hc0, (hV.cell (p := ⟨b, off + k * 6 + 1, none⟩) hbg).trans hc1, (hV.cell (p := ⟨b, off + k * 6 + 2, none⟩) hbg).trans hc2, (hV.cell (p := ⟨b, off + k * 6 + 3, none⟩) hbg).trans hc3, (hV.cell (p := ⟨b, off + k * 6 + 4, none⟩) hbg).trans hc4, (hV.cell (p := ⟨b, off + k * 6 + 5, none⟩) hbg).trans hc5⟩
    have HSS := hide hSS
    clear hSS X0 x0 x1 x2 x3 hc0 hc1 hc2 hc3 hc4 hc5 hbg
    refine Reg.startT (fun V => V.cell? ⟨w.heap.size, 2, none⟩ = some (.int .i64 k) ∧ V.cell? ⟨w.heap.size, 3, none⟩ = some (.int .i64 vl) ∧ V.cell? ⟨b, off + k * 6, none⟩ = some (.string p.nm) ∧ V.cell? ⟨b, off + k * 6 + 1, none⟩ = some (.int .i64 p.kd) ∧ V.cell? ⟨b, off + k * 6 + 2, none⟩ = some (.int .i64 p.al) ∧ V.cell? ⟨b, off + k * 6 + 3, none⟩ = some (.slice p.A p.zs.length p.c) ∧ V.cell? ⟨b, off + k * 6 + 4, none⟩ = some (.int .i64 p.sz) ∧ V.cell? ⟨b, off + k * 6 + 5, none⟩ = some (.slice p.F p.fs.length p.fc)) (fun _ => false) (by kernel_rfl) ?_
    have hHeld := HSS.out w0.drew (Below.drew (Below.refl _ _))
    refine Reg.takeT (i := 0) (v := ?_) rfl (by kernel_rfl) (by kernel_rfl) (by kernel_rfl) (by kernel_rfl) (fun _ _ _ h => h) (Or.inl ⟨by rfl, ?_⟩) (by assumption) ?_
    rotate_left 1
    focus (intro w hSw; (try dsimp only at hSw); go_simp; (try with_reducible rfl))
    try simp only [List.getElem_toArray, List.getElem_cons_succ, List.getElem_cons_zero, Act.put, List.setIfInBounds_toArray, List.set_cons_zero, List.set_cons_succ]
    refine Reg.takeT (i := 1) (v := ?_) rfl (by kernel_rfl) (by kernel_rfl) (by kernel_rfl) (by kernel_rfl) (fun _ _ _ h => h) (Or.inl ⟨by rfl, ?_⟩) (by assumption) ?_
    rotate_left 1
    focus (intro w hSw; (try dsimp only at hSw); go_simp; (try with_reducible rfl))
    try simp only [List.getElem_toArray, List.getElem_cons_succ, List.getElem_cons_zero, Act.put, List.setIfInBounds_toArray, List.set_cons_zero, List.set_cons_succ]
    refine Reg.takeT (i := 2) (v := ?_) rfl (by kernel_rfl) (by kernel_rfl) (by kernel_rfl) (by kernel_rfl) (fun _ _ _ h => h) (Or.inl ⟨by rfl, ?_⟩) (by assumption) ?_
    rotate_left 1
    focus (intro w hSw; (try dsimp only at hSw); go_simp; (try with_reducible rfl))
    try simp only [List.getElem_toArray, List.getElem_cons_succ, List.getElem_cons_zero, Act.put, List.setIfInBounds_toArray, List.set_cons_zero, List.set_cons_succ]
    refine Reg.takeT (i := 3) (v := ?_) rfl (by kernel_rfl) (by kernel_rfl) (by kernel_rfl) (by kernel_rfl) (fun _ _ _ h => h) (Or.inl ⟨by rfl, ?_⟩) (by assumption) ?_
    rotate_left 1
    focus (intro w hSw; (try dsimp only at hSw); go_simp; (try with_reducible rfl))
    try simp only [List.getElem_toArray, List.getElem_cons_succ, List.getElem_cons_zero, Act.put, List.setIfInBounds_toArray, List.set_cons_zero, List.set_cons_succ]
    refine Reg.takeT (i := 4) (v := ?_) rfl (by kernel_rfl) (by kernel_rfl) (by kernel_rfl) (by kernel_rfl) (fun _ _ _ h => h) (Or.inl ⟨by rfl, ?_⟩) (by assumption) ?_
    rotate_left 1
    focus (intro w hSw; (try dsimp only at hSw); go_simp; (try with_reducible rfl))
    try simp only [List.getElem_toArray, List.getElem_cons_succ, List.getElem_cons_zero, Act.put, List.setIfInBounds_toArray, List.set_cons_zero, List.set_cons_succ]
    refine Reg.oneT (i := 5) rfl (by kernel_rfl) (fun K hK => ?_)
    go_simp
    refine (within_any _ _ _ _).mono ?_
    rintro e w' ⟨rfl, rfl⟩
    rw [HIN.out]
    refine hK.out _ _ hHeld ?_
    clear hK K
    try simp only [List.getElem_toArray, List.getElem_cons_succ, List.getElem_cons_zero, Act.put, List.setIfInBounds_toArray, List.set_cons_zero, List.set_cons_succ]
    refine Reg.takeT (i := 6) (v := ?_) rfl (by kernel_rfl) (by kernel_rfl) (by kernel_rfl) (by kernel_rfl) (fun _ _ _ h => h) (Or.inl ⟨by rfl, ?_⟩) (by assumption) ?_
    rotate_left 1
    focus (intro w hSw; (try dsimp only at hSw); go_simp; (try with_reducible rfl))
    try simp only [List.getElem_toArray, List.getElem_cons_succ, List.getElem_cons_zero, Act.put, List.setIfInBounds_toArray, List.set_cons_zero, List.set_cons_succ]
    refine Reg.takeT (i := 7) (v := ?_) rfl (by kernel_rfl) (by kernel_rfl) (by kernel_rfl) (by kernel_rfl) (fun _ _ _ h => h) (Or.inl ⟨by rfl, ?_⟩) (by assumption) ?_
    rotate_left 1
    focus (intro w hSw; (try dsimp only at hSw); go_simp; (try with_reducible rfl))
    try simp only [List.getElem_toArray, List.getElem_cons_succ, List.getElem_cons_zero, Act.put, List.setIfInBounds_toArray, List.set_cons_zero, List.set_cons_succ]
    refine Reg.takeT (i := 8) (v := ?_) rfl (by kernel_rfl) (by kernel_rfl) (by kernel_rfl) (by kernel_rfl) (fun _ _ _ h => h) (Or.inl ⟨by rfl, ?_⟩) (by assumption) ?_
    rotate_left 1
    focus (intro w hSw; (try dsimp only at hSw); go_simp; (try with_reducible rfl))
    try simp only [List.getElem_toArray, List.getElem_cons_succ, List.getElem_cons_zero, Act.put, List.setIfInBounds_toArray, List.set_cons_zero, List.set_cons_succ]
    refine Reg.takeT (i := 9) (v := ?_) rfl (by kernel_rfl) (by kernel_rfl) (by kernel_rfl) (by kernel_rfl) (fun _ _ _ h => h) (Or.inl ⟨by rfl, ?_⟩) (by assumption) ?_
    rotate_left 1
    focus (intro w hSw; (try dsimp only at hSw); go_simp; (try with_reducible rfl))
    try simp only [List.getElem_toArray, List.getElem_cons_succ, List.getElem_cons_zero, Act.put, List.setIfInBounds_toArray, List.set_cons_zero, List.set_cons_succ]
    refine Reg.takeT (i := 10) (v := ?_) rfl (by kernel_rfl) (by kernel_rfl) (by kernel_rfl) (by kernel_rfl) (fun _ _ _ h => h) (Or.inl ⟨by rfl, ?_⟩) (by assumption) ?_
    rotate_left 1
    focus (intro w hSw; (try dsimp only at hSw); go_simp; (try with_reducible rfl))
    try simp only [List.getElem_toArray, List.getElem_cons_succ, List.getElem_cons_zero, Act.put, List.setIfInBounds_toArray, List.set_cons_zero, List.set_cons_succ]
    refine Reg.takeT (i := 11) (v := ?_) rfl (by kernel_rfl) (by kernel_rfl) (by kernel_rfl) (by kernel_rfl) (fun _ _ _ h => h) (Or.inl ⟨by rfl, ?_⟩) (by assumption) ?_
    rotate_left 1
    focus (intro w hSw; (try dsimp only at hSw); go_simp; (try with_reducible rfl))
    try simp only [List.getElem_toArray, List.getElem_cons_succ, List.getElem_cons_zero, Act.put, List.setIfInBounds_toArray, List.set_cons_zero, List.set_cons_succ]
    refine Reg.takeT (i := 12) (v := ?_) rfl (by kernel_rfl) (by kernel_rfl) (by kernel_rfl) (by kernel_rfl) (fun _ _ _ h => h) (Or.inl ⟨by rfl, ?_⟩) (by assumption) ?_
    rotate_left 1
    focus (intro w hSw; (try dsimp only at hSw); go_simp; (try with_reducible rfl))
    try simp only [List.getElem_toArray, List.getElem_cons_succ, List.getElem_cons_zero, Act.put, List.setIfInBounds_toArray, List.set_cons_zero, List.set_cons_succ]
    refine Reg.takeT (i := 13) (v := ?_) rfl (by kernel_rfl) (by kernel_rfl) (by kernel_rfl) (by kernel_rfl) (fun _ _ _ h => h) (Or.inl ⟨by rfl, ?_⟩) (by assumption) ?_
    rotate_left 1
    focus (intro w hSw; (try dsimp only at hSw); go_simp; (try with_reducible rfl))
    try simp only [List.getElem_toArray, List.getElem_cons_succ, List.getElem_cons_zero, Act.put, List.setIfInBounds_toArray, List.set_cons_zero, List.set_cons_succ]
    refine Reg.oneT (i := 14) rfl (by kernel_rfl) (fun K hK => ?_)
    go_simp
    refine (sectionSize_any p _ HM.out).mono ?_
    rintro e w5 ⟨rfl, b5⟩
    have HB5 := hide (HB.out.trans ((below_drawn b5).mono HB.out.size))
    have hHeld := HSS.out w5 (below_drawn b5)
    refine hK.out _ _ hHeld ?_
    clear hK K b5
    try simp only [List.getElem_toArray, List.getElem_cons_succ, List.getElem_cons_zero, Act.put, List.setIfInBounds_toArray, List.set_cons_zero, List.set_cons_succ]
    generalize secSize p.d = q at *
    refine Reg.oneT (i := 15) rfl (by kernel_rfl) (fun K hK => ?_)
    go_simp
    refine (within_any _ _ _ _).mono ?_
    rintro e w' ⟨rfl, rfl⟩
    refine hK.out _ _ hHeld ?_
    clear hK K
    try simp only [List.getElem_toArray, List.getElem_cons_succ, List.getElem_cons_zero, Act.put, List.setIfInBounds_toArray, List.set_cons_zero, List.set_cons_succ]
    generalize inB vl 0 q = bb at *
    refine Reg.takeT (i := 16) (v := ?_) rfl (by kernel_rfl) (by kernel_rfl) (by kernel_rfl) (by kernel_rfl) (fun _ _ _ h => h) (Or.inl ⟨by rfl, ?_⟩) (by assumption) ?_
    rotate_left 1
    focus (intro w hSw; (try dsimp only at hSw); go_simp; (try with_reducible rfl))
    try simp only [List.getElem_toArray, List.getElem_cons_succ, List.getElem_cons_zero, Act.put, List.setIfInBounds_toArray, List.set_cons_zero, List.set_cons_succ]
    refine Reg.takeT (i := 17) (v := ?_) rfl (by kernel_rfl) (by kernel_rfl) (by kernel_rfl) (by kernel_rfl) (fun _ _ _ h => h) (Or.inl ⟨by rfl, ?_⟩) (by assumption) ?_
    rotate_left 1
    focus (intro w hSw; (try dsimp only at hSw); go_simp; (try with_reducible rfl))
    try simp only [List.getElem_toArray, List.getElem_cons_succ, List.getElem_cons_zero, Act.put, List.setIfInBounds_toArray, List.set_cons_zero, List.set_cons_succ]
    refine Reg.doneT (by kernel_rfl) ?_ _
    clear hHeld HSS
    go_wp2_with fail
    go_ret
    exact ⟨by rw [HV.out]; rfl, HB5.out⟩
  · rw [inB_f hw, Bool.false_and] at HV
    have HIN := hide (inB_f hw)
    clear hw hz
    refine Reg.startT (fun V => V.cell? ⟨w.heap.size, 2, none⟩ = some (.int .i64 wh)) (fun _ => false) (by kernel_rfl) ?_
    have hHeld : w0.drew.cell? ⟨w.heap.size, 2, none⟩ = some (.int .i64 wh) := x2
    refine Reg.takeT (i := 0) (v := ?_) rfl (by kernel_rfl) (by kernel_rfl) (by kernel_rfl) (by kernel_rfl) (fun _ _ _ h => h) (Or.inl ⟨by rfl, ?_⟩) (by assumption) ?_
    rotate_left 1
    focus (intro w hSw; (try dsimp only at hSw); go_simp; (try with_reducible rfl))
    try simp only [List.getElem_toArray, List.getElem_cons_succ, List.getElem_cons_zero, Act.put, List.setIfInBounds_toArray, List.set_cons_zero, List.set_cons_succ]
    refine Reg.takeT (i := 1) (v := ?_) rfl (by kernel_rfl) (by kernel_rfl) (by kernel_rfl) (by kernel_rfl) (fun _ _ _ h => h) (Or.inl ⟨by rfl, ?_⟩) (by assumption) ?_
    rotate_left 1
    focus (intro w hSw; (try dsimp only at hSw); go_simp; (try with_reducible rfl))
    try simp only [List.getElem_toArray, List.getElem_cons_succ, List.getElem_cons_zero, Act.put, List.setIfInBounds_toArray, List.set_cons_zero, List.set_cons_succ]
    refine Reg.takeT (i := 2) (v := ?_) rfl (by kernel_rfl) (by kernel_rfl) (by kernel_rfl) (by kernel_rfl) (fun _ _ _ h => h) (Or.inl ⟨by rfl, ?_⟩) (by assumption) ?_
    rotate_left 1
    focus (intro w hSw; (try dsimp only at hSw); go_simp; (try with_reducible rfl))
    try simp only [List.getElem_toArray, List.getElem_cons_succ, List.getElem_cons_zero, Act.put, List.setIfInBounds_toArray, List.set_cons_zero, List.set_cons_succ]
    refine Reg.takeT (i := 3) (v := ?_) rfl (by kernel_rfl) (by kernel_rfl) (by kernel_rfl) (by kernel_rfl) (fun _ _ _ h => h) (Or.inl ⟨by rfl, ?_⟩) (by assumption) ?_
    rotate_left 1
    focus (intro w hSw; (try dsimp only at hSw); go_simp; (try with_reducible rfl))
    try simp only [List.getElem_toArray, List.getElem_cons_succ, List.getElem_cons_zero, Act.put, List.setIfInBounds_toArray, List.set_cons_zero, List.set_cons_succ]
    refine Reg.takeT (i := 4) (v := ?_) rfl (by kernel_rfl) (by kernel_rfl) (by kernel_rfl) (by kernel_rfl) (fun _ _ _ h => h) (Or.inl ⟨by rfl, ?_⟩) (by assumption) ?_
    rotate_left 1
    focus (intro w hSw; (try dsimp only at hSw); go_simp; (try with_reducible rfl))
    try simp only [List.getElem_toArray, List.getElem_cons_succ, List.getElem_cons_zero, Act.put, List.setIfInBounds_toArray, List.set_cons_zero, List.set_cons_succ]
    refine Reg.oneT (i := 5) rfl (by kernel_rfl) (fun K hK => ?_)
    go_simp
    refine (within_any _ _ _ _).mono ?_
    rintro e w' ⟨rfl, rfl⟩
    rw [HIN.out]
    refine hK.out _ _ hHeld ?_
    clear hK K
    try simp only [List.getElem_toArray, List.getElem_cons_succ, List.getElem_cons_zero, Act.put, List.setIfInBounds_toArray, List.set_cons_zero, List.set_cons_succ]
    refine Reg.takeT (i := 6) (v := ?_) rfl (by kernel_rfl) (by kernel_rfl) (by kernel_rfl) (by kernel_rfl) (fun _ _ _ h => h) (Or.inl ⟨by rfl, ?_⟩) (by assumption) ?_
    rotate_left 1
    focus (intro w hSw; (try dsimp only at hSw); go_simp; (try with_reducible rfl))
    try simp only [List.getElem_toArray, List.getElem_cons_succ, List.getElem_cons_zero, Act.put, List.setIfInBounds_toArray, List.set_cons_zero, List.set_cons_succ]
    refine Reg.takeT (i := 7) (v := undef) rfl (by kernel_rfl) (by kernel_rfl) (by kernel_rfl) (by kernel_rfl) (fun _ _ _ h => h) (Or.inr ⟨by rfl, rfl⟩) (by assumption) ?_
    try simp only [List.getElem_toArray, List.getElem_cons_succ, List.getElem_cons_zero, Act.put, List.setIfInBounds_toArray, List.set_cons_zero, List.set_cons_succ]
    refine Reg.takeT (i := 8) (v := undef) rfl (by kernel_rfl) (by kernel_rfl) (by kernel_rfl) (by kernel_rfl) (fun _ _ _ h => h) (Or.inr ⟨by rfl, rfl⟩) (by assumption) ?_
    try simp only [List.getElem_toArray, List.getElem_cons_succ, List.getElem_cons_zero, Act.put, List.setIfInBounds_toArray, List.set_cons_zero, List.set_cons_succ]
    refine Reg.takeT (i := 9) (v := undef) rfl (by kernel_rfl) (by kernel_rfl) (by kernel_rfl) (by kernel_rfl) (fun _ _ _ h => h) (Or.inr ⟨by rfl, rfl⟩) (by assumption) ?_
    try simp only [List.getElem_toArray, List.getElem_cons_succ, List.getElem_cons_zero, Act.put, List.setIfInBounds_toArray, List.set_cons_zero, List.set_cons_succ]
    refine Reg.takeT (i := 10) (v := undef) rfl (by kernel_rfl) (by kernel_rfl) (by kernel_rfl) (by kernel_rfl) (fun _ _ _ h => h) (Or.inr ⟨by rfl, rfl⟩) (by assumption) ?_
    try simp only [List.getElem_toArray, List.getElem_cons_succ, List.getElem_cons_zero, Act.put, List.setIfInBounds_toArray, List.set_cons_zero, List.set_cons_succ]
    refine Reg.takeT (i := 11) (v := undef) rfl (by kernel_rfl) (by kernel_rfl) (by kernel_rfl) (by kernel_rfl) (fun _ _ _ h => h) (Or.inr ⟨by rfl, rfl⟩) (by assumption) ?_
    try simp only [List.getElem_toArray, List.getElem_cons_succ, List.getElem_cons_zero, Act.put, List.setIfInBounds_toArray, List.set_cons_zero, List.set_cons_succ]
    refine Reg.takeT (i := 12) (v := undef) rfl (by kernel_rfl) (by kernel_rfl) (by kernel_rfl) (by kernel_rfl) (fun _ _ _ h => h) (Or.inr ⟨by rfl, rfl⟩) (by assumption) ?_
    try simp only [List.getElem_toArray, List.getElem_cons_succ, List.getElem_cons_zero, Act.put, List.setIfInBounds_toArray, List.set_cons_zero, List.set_cons_succ]
    refine Reg.takeT (i := 13) (v := undef) rfl (by kernel_rfl) (by kernel_rfl) (by kernel_rfl) (by kernel_rfl) (fun _ _ _ h => h) (Or.inr ⟨by rfl, rfl⟩) (by assumption) ?_
    try simp only [List.getElem_toArray, List.getElem_cons_succ, List.getElem_cons_zero, Act.put, List.setIfInBounds_toArray, List.set_cons_zero, List.set_cons_succ]
    refine Reg.takeT (i := 14) (v := undef) rfl (by kernel_rfl) (by kernel_rfl) (by kernel_rfl) (by kernel_rfl) (fun _ _ _ h => h) (Or.inr ⟨by rfl, rfl⟩) (by assumption) ?_
    try simp only [List.getElem_toArray, List.getElem_cons_succ, List.getElem_cons_zero, Act.put, List.setIfInBounds_toArray, List.set_cons_zero, List.set_cons_succ]
    refine Reg.takeT (i := 15) (v := undef) rfl (by kernel_rfl) (by kernel_rfl) (by kernel_rfl) (by kernel_rfl) (fun _ _ _ h => h) (Or.inr ⟨by rfl, rfl⟩) (by assumption) ?_
    try simp only [List.getElem_toArray, List.getElem_cons_succ, List.getElem_cons_zero, Act.put, List.setIfInBounds_toArray, List.set_cons_zero, List.set_cons_succ]
    refine Reg.takeT (i := 16) (v := ?_) rfl (by kernel_rfl) (by kernel_rfl) (by kernel_rfl) (by kernel_rfl) (fun _ _ _ h => h) (Or.inl ⟨by rfl, ?_⟩) (by assumption) ?_
    rotate_left 1
    focus (intro w hSw; (try dsimp only at hSw); go_simp; (try with_reducible rfl))
    try simp only [List.getElem_toArray, List.getElem_cons_succ, List.getElem_cons_zero, Act.put, List.setIfInBounds_toArray, List.set_cons_zero, List.set_cons_succ]
    refine Reg.takeT (i := 17) (v := ?_) rfl (by kernel_rfl) (by kernel_rfl) (by kernel_rfl) (by kernel_rfl) (fun _ _ _ h => h) (Or.inl ⟨by rfl, ?_⟩) (by assumption) ?_
    rotate_left 1
    focus (intro w hSw; (try dsimp only at hSw); go_simp; (try with_reducible rfl))
    try simp only [List.getElem_toArray, List.getElem_cons_succ, List.getElem_cons_zero, Act.put, List.setIfInBounds_toArray, List.set_cons_zero, List.set_cons_succ]
    refine Reg.doneT (by kernel_rfl) ?_ _
    clear hHeld
    go_wp2_with fail
    go_ret
    exact ⟨by rw [HV.out]; rfl, Below.drew HB.out⟩
set_option maxHeartbeats 1000000 in
theorem symbolValidS_any (y : YD) (A : Option Addr) (ps : List SV) (c : Nat) (w : World) (hr : Rd w w.heap.size A (cellsOf secC ps)) (hn : ps.length ≤ 1048576) (h0 : y.1.size ≤ maxLen) (hz : ∀ p ∈ ps, p.zs.length ≤ maxLen) :
    Calls Try.prog 75 #[.agg #[.string y.1, .int .i64 y.2.1, .int .i64 y.2.2.1, .int .i64 y.2.2.2], .slice A ps.length c] w (Ret (.bool (symOk (ps.map SV.d) y)) w) := by
  obtain ⟨nm, bd, wh, vl⟩ := y
  have HR := hide hr
  have H0 := hide h0
  simp only at h0 ⊢
  clear hr h0
  have B0 : Below w.heap.size w (w.alloc (.cells #[.string nm, .int .i64 bd, .int .i64 wh, .int .i64 vl] 69)) := (by repeat (first | exact Below.refl _ _ | with_reducible assumption | (refine Below.drew ?_) | (refine Below.drewN ?_ _) | (refine Below.alloc ?_ (by simp; try omega) _) | (refine Below.setCell ?_ (by simp; try omega) _)))
  have X0 := Box.new w 69 #[.string nm, .int .i64 bd, .int .i64 wh, .int .i64 vl]
  have HB := hide B0
  have x0 := X0.cell 0
  have x1 := X0.cell 1
  have x2 := X0.cell 2
  have x3 := X0.cell 3
  simp only [List.getElem?_toArray, List.getElem?_cons_zero, List.getElem?_cons_succ] at x0 x1 x2 x3
  clear B0
  go_enter Try.func75, Try.ntmps75
  go_wp2_with fail
  generalize w.alloc (.cells #[.string nm, .int .i64 bd, .int .i64 wh, .int .i64 vl] 69) = w0 at *
  refine (nameValidS_any nm H0.out w0).mono ?_
  rintro e w' ⟨rfl, rfl⟩
  cases hn1 : nameOk nm
  · have HV := hide (sym_bind (ss := ps.map SV.d) (y := (nm, bd, wh, vl)) (by simp [bindOk, hn1]))
    go_wp2_with fail
    go_ret
    exact ⟨by rw [HV.out]; rfl, HB.out⟩
  go_wp2_with fail
  refine (l1In_any _ _ _ _).mono ?_
  rintro e w' ⟨rfl, rfl⟩
  cases hb1 : inB bd 0 2
  · have HV := hide (sym_bind (ss := ps.map SV.d) (y := (nm, bd, wh, vl)) (by simp [bindOk, hb1]))
    go_wp2_with fail
    go_ret
    exact ⟨by rw [HV.out]; rfl, HB.out⟩
  have HV := hide (sym_place (ss := ps.map SV.d) (y := (nm, bd, wh, vl)) (by simp [bindOk, hn1, hb1]))
  clear hn1 hb1
  by_cases h1 : wh = -1
  · have hp : placeOk (ps.map SV.d) (nm, bd, wh, vl) = (decide (vl = 0) && !decide (bd = 0)) := by simp only [placeOk]; rw [if_pos h1]
    have e1 : (wh == -1) = true := beq_iff_eq.2 h1
    rw [hp] at HV
    clear hp h1
    by_cases h2 : vl = 0
    · have e2 : (vl == 0) = true := beq_iff_eq.2 h2
      rw [decide_eq_true h2] at HV
      clear h2
      by_cases h3 : bd = 0
      · have e3 : (bd != 0) = false := by rw [h3]; rfl
        rw [decide_eq_true h3] at HV
        clear h3
        go_wp2_with fail
        go_ret
        exact ⟨by rw [HV.out]; rfl, HB.out⟩
      · have e3 : (bd != 0) = true := bne_iff_ne.2 h3
        rw [decide_eq_false h3] at HV
        clear h3
        go_wp2_with fail
        go_ret
        exact ⟨by rw [HV.out]; rfl, HB.out⟩
    · have e2 : (vl == 0) = false := beq_eq_false_iff_ne.2 h2
      rw [decide_eq_false h2, Bool.false_and] at HV
      clear h2
      go_wp2_with fail
      go_ret
      exact ⟨by rw [HV.out]; rfl, HB.out⟩
  have e1 : (wh == -1) = false := beq_eq_false_iff_ne.2 h1
  by_cases h2 : wh = -2
  · have hp : placeOk (ps.map SV.d) (nm, bd, wh, vl) = inB vl 0 60000 := by simp only [placeOk]; rw [if_neg h1, if_pos h2]
    have e2 : (wh == -2) = true := beq_iff_eq.2 h2
    rw [hp] at HV
    clear hp h1 h2
    go_wp2_with fail
    refine (l1In_any _ _ _ _).mono ?_
    rintro e w' ⟨rfl, rfl⟩
    generalize inB vl 0 60000 = bb at *
    go_wp2_with fail
    go_ret
    exact ⟨by rw [HV.out]; rfl, HB.out⟩
  have e2 : (wh == -2) = false := beq_eq_false_iff_ne.2 h2
  have hp : placeOk (ps.map SV.d) (nm, bd, wh, vl) = (inB wh 0 ((ps.length : Int) - 1) && inB vl 0 (secSize ((ps.map SV.d).getD wh.toNat ⟨ByteArray.empty, 0, 0, [], 0, []⟩))) := by simp only [placeOk]; rw [if_neg h1, if_neg h2, List.length_map]
  rw [hp] at HV
  clear hp h1 h2
  have hwr : IntKind.i64.wrap ((ps.length : Int) - 1) = (ps.length : Int) - 1 := IntWalk.i64_in _ (by omega)
  go_wp2_with fail
  by_cases hw : 0 ≤ wh ∧ wh ≤ (ps.length : Int) - 1
  · obtain ⟨k, rfl⟩ := Int.eq_ofNat_of_zero_le hw.1
    have hlt : k < ps.length := by omega
    have hgd : (ps.map SV.d).getD (k : Int).toNat ⟨ByteArray.empty, 0, 0, [], 0, []⟩ = ps[k].d := by
      rw [Int.toNat_natCast, List.getD_eq_getElem?_getD, List.getElem?_map, List.getElem?_eq_getElem hlt]
      rfl
    rw [hgd, inB_t hw, Bool.true_and] at HV
    have HIN := hide (inB_t hw)
    obtain ⟨b, off, rfl, hbg, hc⟩ := ((HR.out.below HB.out).more HB.out.size).row secC_len (by decide) hlt
    have hc0 := hc 0 _ rfl
    have hc1 := hc 1 _ rfl
    have hc2 := hc 2 _ rfl
    have hc3 := hc 3 _ rfl
    have hc4 := hc 4 _ rfl
    have hc5 := hc 5 _ rfl
    simp only [Nat.add_zero] at hc0
    have HM := hide (hz _ (List.getElem_mem hlt))
    clear hc hgd hw hz
    generalize ps[k] = p at *
    have HX0 := hide X0
    have hSS : ∀ V : World, Below w0.heap.size w0 V → (V.cell? ⟨w.heap.size, 2, none⟩ = some (.int .i64 k) ∧ V.cell? ⟨w.heap.size, 3, none⟩ = some (.int .i64 vl) ∧ V.cell? ⟨b, off + k * 6, none⟩ = some (.string p.nm) ∧ V.cell? ⟨b, off + k * 6 + 1, none⟩ = some (.int .i64 p.kd) ∧ V.cell? ⟨b, off + k * 6 + 2, none⟩ = some (.int .i64 p.al) ∧ V.cell? ⟨b, off + k * 6 + 3, none⟩ = some (.slice p.A p.zs.length p.c) ∧ V.cell? ⟨b, off + k * 6 + 4, none⟩ = some (.int .i64 p.sz) ∧ V.cell? ⟨b, off + k * 6 + 5, none⟩ = some (.slice p.F p.fs.length p.fc)) := by
      intro V hV
      have hl := HX0.out.lt
      exact ⟨(hV.cell (p := ⟨w.heap.size, 2, none⟩) hl).trans x2, (hV.cell (p := ⟨w.heap.size, 3, none⟩) hl).trans x3, (hV.cell (p := ⟨b, off + k * 6, none⟩) hbg).trans hc0, (hV.cell (p := ⟨b, off + k * 6 + 1, none⟩) hbg).trans hc1, (hV.cell (p := ⟨b, off + k * 6 + 2, none⟩) hbg).trans hc2, (hV.cell (p := ⟨b, off + k * 6 + 3, none⟩) hbg).trans hc3, (hV.cell (p := ⟨b, off + k * 6 + 4, none⟩) hbg).trans hc4, (hV.cell (p := ⟨b, off + k * 6 + 5, none⟩) hbg).trans hc5⟩
    have HSS := hide hSS
    clear hSS X0 x0 x1 x2 x3 hc0 hc1 hc2 hc3 hc4 hc5 hbg
    refine Reg.startT (fun V => V.cell? ⟨w.heap.size, 2, none⟩ = some (.int .i64 k) ∧ V.cell? ⟨w.heap.size, 3, none⟩ = some (.int .i64 vl) ∧ V.cell? ⟨b, off + k * 6, none⟩ = some (.string p.nm) ∧ V.cell? ⟨b, off + k * 6 + 1, none⟩ = some (.int .i64 p.kd) ∧ V.cell? ⟨b, off + k * 6 + 2, none⟩ = some (.int .i64 p.al) ∧ V.cell? ⟨b, off + k * 6 + 3, none⟩ = some (.slice p.A p.zs.length p.c) ∧ V.cell? ⟨b, off + k * 6 + 4, none⟩ = some (.int .i64 p.sz) ∧ V.cell? ⟨b, off + k * 6 + 5, none⟩ = some (.slice p.F p.fs.length p.fc)) (fun _ => false) (by kernel_rfl) ?_
    have hHeld := HSS.out w0.drew (Below.drew (Below.refl _ _))
    refine Reg.takeT (i := 0) (v := ?_) rfl (by kernel_rfl) (by kernel_rfl) (by kernel_rfl) (by kernel_rfl) (fun _ _ _ h => h) (Or.inl ⟨by rfl, ?_⟩) (by assumption) ?_
    rotate_left 1
    focus (intro w hSw; (try dsimp only at hSw); go_simp; (try with_reducible rfl))
    try simp only [List.getElem_toArray, List.getElem_cons_succ, List.getElem_cons_zero, Act.put, List.setIfInBounds_toArray, List.set_cons_zero, List.set_cons_succ]
    refine Reg.takeT (i := 1) (v := ?_) rfl (by kernel_rfl) (by kernel_rfl) (by kernel_rfl) (by kernel_rfl) (fun _ _ _ h => h) (Or.inl ⟨by rfl, ?_⟩) (by assumption) ?_
    rotate_left 1
    focus (intro w hSw; (try dsimp only at hSw); go_simp; (try with_reducible rfl))
    try simp only [List.getElem_toArray, List.getElem_cons_succ, List.getElem_cons_zero, Act.put, List.setIfInBounds_toArray, List.set_cons_zero, List.set_cons_succ]
    refine Reg.takeT (i := 2) (v := ?_) rfl (by kernel_rfl) (by kernel_rfl) (by kernel_rfl) (by kernel_rfl) (fun _ _ _ h => h) (Or.inl ⟨by rfl, ?_⟩) (by assumption) ?_
    rotate_left 1
    focus (intro w hSw; (try dsimp only at hSw); go_simp; (try with_reducible rfl))
    try simp only [List.getElem_toArray, List.getElem_cons_succ, List.getElem_cons_zero, Act.put, List.setIfInBounds_toArray, List.set_cons_zero, List.set_cons_succ]
    refine Reg.takeT (i := 3) (v := ?_) rfl (by kernel_rfl) (by kernel_rfl) (by kernel_rfl) (by kernel_rfl) (fun _ _ _ h => h) (Or.inl ⟨by rfl, ?_⟩) (by assumption) ?_
    rotate_left 1
    focus (intro w hSw; (try dsimp only at hSw); go_simp; (try with_reducible rfl))
    try simp only [List.getElem_toArray, List.getElem_cons_succ, List.getElem_cons_zero, Act.put, List.setIfInBounds_toArray, List.set_cons_zero, List.set_cons_succ]
    refine Reg.takeT (i := 4) (v := ?_) rfl (by kernel_rfl) (by kernel_rfl) (by kernel_rfl) (by kernel_rfl) (fun _ _ _ h => h) (Or.inl ⟨by rfl, ?_⟩) (by assumption) ?_
    rotate_left 1
    focus (intro w hSw; (try dsimp only at hSw); go_simp; (try with_reducible rfl))
    try simp only [List.getElem_toArray, List.getElem_cons_succ, List.getElem_cons_zero, Act.put, List.setIfInBounds_toArray, List.set_cons_zero, List.set_cons_succ]
    refine Reg.oneT (i := 5) rfl (by kernel_rfl) (fun K hK => ?_)
    go_simp
    refine (l1In_any _ _ _ _).mono ?_
    rintro e w' ⟨rfl, rfl⟩
    rw [HIN.out]
    refine hK.out _ _ hHeld ?_
    clear hK K
    try simp only [List.getElem_toArray, List.getElem_cons_succ, List.getElem_cons_zero, Act.put, List.setIfInBounds_toArray, List.set_cons_zero, List.set_cons_succ]
    refine Reg.takeT (i := 6) (v := ?_) rfl (by kernel_rfl) (by kernel_rfl) (by kernel_rfl) (by kernel_rfl) (fun _ _ _ h => h) (Or.inl ⟨by rfl, ?_⟩) (by assumption) ?_
    rotate_left 1
    focus (intro w hSw; (try dsimp only at hSw); go_simp; (try with_reducible rfl))
    try simp only [List.getElem_toArray, List.getElem_cons_succ, List.getElem_cons_zero, Act.put, List.setIfInBounds_toArray, List.set_cons_zero, List.set_cons_succ]
    refine Reg.takeT (i := 7) (v := ?_) rfl (by kernel_rfl) (by kernel_rfl) (by kernel_rfl) (by kernel_rfl) (fun _ _ _ h => h) (Or.inl ⟨by rfl, ?_⟩) (by assumption) ?_
    rotate_left 1
    focus (intro w hSw; (try dsimp only at hSw); go_simp; (try with_reducible rfl))
    try simp only [List.getElem_toArray, List.getElem_cons_succ, List.getElem_cons_zero, Act.put, List.setIfInBounds_toArray, List.set_cons_zero, List.set_cons_succ]
    refine Reg.takeT (i := 8) (v := ?_) rfl (by kernel_rfl) (by kernel_rfl) (by kernel_rfl) (by kernel_rfl) (fun _ _ _ h => h) (Or.inl ⟨by rfl, ?_⟩) (by assumption) ?_
    rotate_left 1
    focus (intro w hSw; (try dsimp only at hSw); go_simp; (try with_reducible rfl))
    try simp only [List.getElem_toArray, List.getElem_cons_succ, List.getElem_cons_zero, Act.put, List.setIfInBounds_toArray, List.set_cons_zero, List.set_cons_succ]
    refine Reg.takeT (i := 9) (v := ?_) rfl (by kernel_rfl) (by kernel_rfl) (by kernel_rfl) (by kernel_rfl) (fun _ _ _ h => h) (Or.inl ⟨by rfl, ?_⟩) (by assumption) ?_
    rotate_left 1
    focus (intro w hSw; (try dsimp only at hSw); go_simp; (try with_reducible rfl))
    try simp only [List.getElem_toArray, List.getElem_cons_succ, List.getElem_cons_zero, Act.put, List.setIfInBounds_toArray, List.set_cons_zero, List.set_cons_succ]
    refine Reg.takeT (i := 10) (v := ?_) rfl (by kernel_rfl) (by kernel_rfl) (by kernel_rfl) (by kernel_rfl) (fun _ _ _ h => h) (Or.inl ⟨by rfl, ?_⟩) (by assumption) ?_
    rotate_left 1
    focus (intro w hSw; (try dsimp only at hSw); go_simp; (try with_reducible rfl))
    try simp only [List.getElem_toArray, List.getElem_cons_succ, List.getElem_cons_zero, Act.put, List.setIfInBounds_toArray, List.set_cons_zero, List.set_cons_succ]
    refine Reg.takeT (i := 11) (v := ?_) rfl (by kernel_rfl) (by kernel_rfl) (by kernel_rfl) (by kernel_rfl) (fun _ _ _ h => h) (Or.inl ⟨by rfl, ?_⟩) (by assumption) ?_
    rotate_left 1
    focus (intro w hSw; (try dsimp only at hSw); go_simp; (try with_reducible rfl))
    try simp only [List.getElem_toArray, List.getElem_cons_succ, List.getElem_cons_zero, Act.put, List.setIfInBounds_toArray, List.set_cons_zero, List.set_cons_succ]
    refine Reg.takeT (i := 12) (v := ?_) rfl (by kernel_rfl) (by kernel_rfl) (by kernel_rfl) (by kernel_rfl) (fun _ _ _ h => h) (Or.inl ⟨by rfl, ?_⟩) (by assumption) ?_
    rotate_left 1
    focus (intro w hSw; (try dsimp only at hSw); go_simp; (try with_reducible rfl))
    try simp only [List.getElem_toArray, List.getElem_cons_succ, List.getElem_cons_zero, Act.put, List.setIfInBounds_toArray, List.set_cons_zero, List.set_cons_succ]
    refine Reg.takeT (i := 13) (v := ?_) rfl (by kernel_rfl) (by kernel_rfl) (by kernel_rfl) (by kernel_rfl) (fun _ _ _ h => h) (Or.inl ⟨by rfl, ?_⟩) (by assumption) ?_
    rotate_left 1
    focus (intro w hSw; (try dsimp only at hSw); go_simp; (try with_reducible rfl))
    try simp only [List.getElem_toArray, List.getElem_cons_succ, List.getElem_cons_zero, Act.put, List.setIfInBounds_toArray, List.set_cons_zero, List.set_cons_succ]
    refine Reg.oneT (i := 14) rfl (by kernel_rfl) (fun K hK => ?_)
    go_simp
    refine (sectionSizeS_any p _ HM.out).mono ?_
    rintro e w5 ⟨rfl, b5⟩
    have HB5 := hide (HB.out.trans ((below_drawn b5).mono HB.out.size))
    have hHeld := HSS.out w5 (below_drawn b5)
    refine hK.out _ _ hHeld ?_
    clear hK K b5
    try simp only [List.getElem_toArray, List.getElem_cons_succ, List.getElem_cons_zero, Act.put, List.setIfInBounds_toArray, List.set_cons_zero, List.set_cons_succ]
    generalize secSize p.d = q at *
    refine Reg.oneT (i := 15) rfl (by kernel_rfl) (fun K hK => ?_)
    go_simp
    refine (l1In_any _ _ _ _).mono ?_
    rintro e w' ⟨rfl, rfl⟩
    refine hK.out _ _ hHeld ?_
    clear hK K
    try simp only [List.getElem_toArray, List.getElem_cons_succ, List.getElem_cons_zero, Act.put, List.setIfInBounds_toArray, List.set_cons_zero, List.set_cons_succ]
    generalize inB vl 0 q = bb at *
    refine Reg.takeT (i := 16) (v := ?_) rfl (by kernel_rfl) (by kernel_rfl) (by kernel_rfl) (by kernel_rfl) (fun _ _ _ h => h) (Or.inl ⟨by rfl, ?_⟩) (by assumption) ?_
    rotate_left 1
    focus (intro w hSw; (try dsimp only at hSw); go_simp; (try with_reducible rfl))
    try simp only [List.getElem_toArray, List.getElem_cons_succ, List.getElem_cons_zero, Act.put, List.setIfInBounds_toArray, List.set_cons_zero, List.set_cons_succ]
    refine Reg.takeT (i := 17) (v := ?_) rfl (by kernel_rfl) (by kernel_rfl) (by kernel_rfl) (by kernel_rfl) (fun _ _ _ h => h) (Or.inl ⟨by rfl, ?_⟩) (by assumption) ?_
    rotate_left 1
    focus (intro w hSw; (try dsimp only at hSw); go_simp; (try with_reducible rfl))
    try simp only [List.getElem_toArray, List.getElem_cons_succ, List.getElem_cons_zero, Act.put, List.setIfInBounds_toArray, List.set_cons_zero, List.set_cons_succ]
    refine Reg.doneT (by kernel_rfl) ?_ _
    clear hHeld HSS
    go_wp2_with fail
    go_ret
    exact ⟨by rw [HV.out]; rfl, HB5.out⟩
  · rw [inB_f hw, Bool.false_and] at HV
    have HIN := hide (inB_f hw)
    clear hw hz
    refine Reg.startT (fun V => V.cell? ⟨w.heap.size, 2, none⟩ = some (.int .i64 wh)) (fun _ => false) (by kernel_rfl) ?_
    have hHeld : w0.drew.cell? ⟨w.heap.size, 2, none⟩ = some (.int .i64 wh) := x2
    refine Reg.takeT (i := 0) (v := ?_) rfl (by kernel_rfl) (by kernel_rfl) (by kernel_rfl) (by kernel_rfl) (fun _ _ _ h => h) (Or.inl ⟨by rfl, ?_⟩) (by assumption) ?_
    rotate_left 1
    focus (intro w hSw; (try dsimp only at hSw); go_simp; (try with_reducible rfl))
    try simp only [List.getElem_toArray, List.getElem_cons_succ, List.getElem_cons_zero, Act.put, List.setIfInBounds_toArray, List.set_cons_zero, List.set_cons_succ]
    refine Reg.takeT (i := 1) (v := ?_) rfl (by kernel_rfl) (by kernel_rfl) (by kernel_rfl) (by kernel_rfl) (fun _ _ _ h => h) (Or.inl ⟨by rfl, ?_⟩) (by assumption) ?_
    rotate_left 1
    focus (intro w hSw; (try dsimp only at hSw); go_simp; (try with_reducible rfl))
    try simp only [List.getElem_toArray, List.getElem_cons_succ, List.getElem_cons_zero, Act.put, List.setIfInBounds_toArray, List.set_cons_zero, List.set_cons_succ]
    refine Reg.takeT (i := 2) (v := ?_) rfl (by kernel_rfl) (by kernel_rfl) (by kernel_rfl) (by kernel_rfl) (fun _ _ _ h => h) (Or.inl ⟨by rfl, ?_⟩) (by assumption) ?_
    rotate_left 1
    focus (intro w hSw; (try dsimp only at hSw); go_simp; (try with_reducible rfl))
    try simp only [List.getElem_toArray, List.getElem_cons_succ, List.getElem_cons_zero, Act.put, List.setIfInBounds_toArray, List.set_cons_zero, List.set_cons_succ]
    refine Reg.takeT (i := 3) (v := ?_) rfl (by kernel_rfl) (by kernel_rfl) (by kernel_rfl) (by kernel_rfl) (fun _ _ _ h => h) (Or.inl ⟨by rfl, ?_⟩) (by assumption) ?_
    rotate_left 1
    focus (intro w hSw; (try dsimp only at hSw); go_simp; (try with_reducible rfl))
    try simp only [List.getElem_toArray, List.getElem_cons_succ, List.getElem_cons_zero, Act.put, List.setIfInBounds_toArray, List.set_cons_zero, List.set_cons_succ]
    refine Reg.takeT (i := 4) (v := ?_) rfl (by kernel_rfl) (by kernel_rfl) (by kernel_rfl) (by kernel_rfl) (fun _ _ _ h => h) (Or.inl ⟨by rfl, ?_⟩) (by assumption) ?_
    rotate_left 1
    focus (intro w hSw; (try dsimp only at hSw); go_simp; (try with_reducible rfl))
    try simp only [List.getElem_toArray, List.getElem_cons_succ, List.getElem_cons_zero, Act.put, List.setIfInBounds_toArray, List.set_cons_zero, List.set_cons_succ]
    refine Reg.oneT (i := 5) rfl (by kernel_rfl) (fun K hK => ?_)
    go_simp
    refine (l1In_any _ _ _ _).mono ?_
    rintro e w' ⟨rfl, rfl⟩
    rw [HIN.out]
    refine hK.out _ _ hHeld ?_
    clear hK K
    try simp only [List.getElem_toArray, List.getElem_cons_succ, List.getElem_cons_zero, Act.put, List.setIfInBounds_toArray, List.set_cons_zero, List.set_cons_succ]
    refine Reg.takeT (i := 6) (v := ?_) rfl (by kernel_rfl) (by kernel_rfl) (by kernel_rfl) (by kernel_rfl) (fun _ _ _ h => h) (Or.inl ⟨by rfl, ?_⟩) (by assumption) ?_
    rotate_left 1
    focus (intro w hSw; (try dsimp only at hSw); go_simp; (try with_reducible rfl))
    try simp only [List.getElem_toArray, List.getElem_cons_succ, List.getElem_cons_zero, Act.put, List.setIfInBounds_toArray, List.set_cons_zero, List.set_cons_succ]
    refine Reg.takeT (i := 7) (v := undef) rfl (by kernel_rfl) (by kernel_rfl) (by kernel_rfl) (by kernel_rfl) (fun _ _ _ h => h) (Or.inr ⟨by rfl, rfl⟩) (by assumption) ?_
    try simp only [List.getElem_toArray, List.getElem_cons_succ, List.getElem_cons_zero, Act.put, List.setIfInBounds_toArray, List.set_cons_zero, List.set_cons_succ]
    refine Reg.takeT (i := 8) (v := undef) rfl (by kernel_rfl) (by kernel_rfl) (by kernel_rfl) (by kernel_rfl) (fun _ _ _ h => h) (Or.inr ⟨by rfl, rfl⟩) (by assumption) ?_
    try simp only [List.getElem_toArray, List.getElem_cons_succ, List.getElem_cons_zero, Act.put, List.setIfInBounds_toArray, List.set_cons_zero, List.set_cons_succ]
    refine Reg.takeT (i := 9) (v := undef) rfl (by kernel_rfl) (by kernel_rfl) (by kernel_rfl) (by kernel_rfl) (fun _ _ _ h => h) (Or.inr ⟨by rfl, rfl⟩) (by assumption) ?_
    try simp only [List.getElem_toArray, List.getElem_cons_succ, List.getElem_cons_zero, Act.put, List.setIfInBounds_toArray, List.set_cons_zero, List.set_cons_succ]
    refine Reg.takeT (i := 10) (v := undef) rfl (by kernel_rfl) (by kernel_rfl) (by kernel_rfl) (by kernel_rfl) (fun _ _ _ h => h) (Or.inr ⟨by rfl, rfl⟩) (by assumption) ?_
    try simp only [List.getElem_toArray, List.getElem_cons_succ, List.getElem_cons_zero, Act.put, List.setIfInBounds_toArray, List.set_cons_zero, List.set_cons_succ]
    refine Reg.takeT (i := 11) (v := undef) rfl (by kernel_rfl) (by kernel_rfl) (by kernel_rfl) (by kernel_rfl) (fun _ _ _ h => h) (Or.inr ⟨by rfl, rfl⟩) (by assumption) ?_
    try simp only [List.getElem_toArray, List.getElem_cons_succ, List.getElem_cons_zero, Act.put, List.setIfInBounds_toArray, List.set_cons_zero, List.set_cons_succ]
    refine Reg.takeT (i := 12) (v := undef) rfl (by kernel_rfl) (by kernel_rfl) (by kernel_rfl) (by kernel_rfl) (fun _ _ _ h => h) (Or.inr ⟨by rfl, rfl⟩) (by assumption) ?_
    try simp only [List.getElem_toArray, List.getElem_cons_succ, List.getElem_cons_zero, Act.put, List.setIfInBounds_toArray, List.set_cons_zero, List.set_cons_succ]
    refine Reg.takeT (i := 13) (v := undef) rfl (by kernel_rfl) (by kernel_rfl) (by kernel_rfl) (by kernel_rfl) (fun _ _ _ h => h) (Or.inr ⟨by rfl, rfl⟩) (by assumption) ?_
    try simp only [List.getElem_toArray, List.getElem_cons_succ, List.getElem_cons_zero, Act.put, List.setIfInBounds_toArray, List.set_cons_zero, List.set_cons_succ]
    refine Reg.takeT (i := 14) (v := undef) rfl (by kernel_rfl) (by kernel_rfl) (by kernel_rfl) (by kernel_rfl) (fun _ _ _ h => h) (Or.inr ⟨by rfl, rfl⟩) (by assumption) ?_
    try simp only [List.getElem_toArray, List.getElem_cons_succ, List.getElem_cons_zero, Act.put, List.setIfInBounds_toArray, List.set_cons_zero, List.set_cons_succ]
    refine Reg.takeT (i := 15) (v := undef) rfl (by kernel_rfl) (by kernel_rfl) (by kernel_rfl) (by kernel_rfl) (fun _ _ _ h => h) (Or.inr ⟨by rfl, rfl⟩) (by assumption) ?_
    try simp only [List.getElem_toArray, List.getElem_cons_succ, List.getElem_cons_zero, Act.put, List.setIfInBounds_toArray, List.set_cons_zero, List.set_cons_succ]
    refine Reg.takeT (i := 16) (v := ?_) rfl (by kernel_rfl) (by kernel_rfl) (by kernel_rfl) (by kernel_rfl) (fun _ _ _ h => h) (Or.inl ⟨by rfl, ?_⟩) (by assumption) ?_
    rotate_left 1
    focus (intro w hSw; (try dsimp only at hSw); go_simp; (try with_reducible rfl))
    try simp only [List.getElem_toArray, List.getElem_cons_succ, List.getElem_cons_zero, Act.put, List.setIfInBounds_toArray, List.set_cons_zero, List.set_cons_succ]
    refine Reg.takeT (i := 17) (v := ?_) rfl (by kernel_rfl) (by kernel_rfl) (by kernel_rfl) (by kernel_rfl) (fun _ _ _ h => h) (Or.inl ⟨by rfl, ?_⟩) (by assumption) ?_
    rotate_left 1
    focus (intro w hSw; (try dsimp only at hSw); go_simp; (try with_reducible rfl))
    try simp only [List.getElem_toArray, List.getElem_cons_succ, List.getElem_cons_zero, Act.put, List.setIfInBounds_toArray, List.set_cons_zero, List.set_cons_succ]
    refine Reg.doneT (by kernel_rfl) ?_ _
    clear hHeld
    go_wp2_with fail
    go_ret
    exact ⟨by rw [HV.out]; rfl, Below.drew HB.out⟩
end Go.Proofs.Ytmglgjchemecjaa.CSymValid
/- globalOf: the first symbol with a name that is not local. -/
namespace Go.Proofs.Ytmglgjchemecjaa.CGlobalOf
set_option maxRecDepth 200000
open Go.ChangeShapes Go.WideShapes Go.ChangeAt Go.RowKit Kit CCode CName CFixups CSymbols PObj BObj PValid CSecValid
def hit (nm : ByteArray) (x : YD) : Bool := !decide (x.2.1 = 0) && decide (x.1 = nm)
theorem str_eq (a b : ByteArray) : (a.toList == b.toList) = decide (a = b) := by
  rw [ByteArray.toList_eq, ByteArray.toList_eq]
  by_cases h : a = b
  · rw [h, decide_eq_true rfl]
    simp
  · rw [decide_eq_false h, beq_eq_false_iff_ne]
    intro e
    refine h ?_
    obtain ⟨⟨x⟩⟩ := a
    obtain ⟨⟨y⟩⟩ := b
    simp at e
    rw [e]
theorem pred_any (nm : ByteArray) (N : Nat) (z : YD) (w : World) (hN : N < w.heap.size) (hc : w.cell? ⟨N, 0, none⟩ = some (.string nm)) :
    Calls Try.prog 141 #[.agg #[.string z.1, .int .i64 z.2.1, .int .i64 z.2.2.1, .int .i64 z.2.2.2], .pointer (some ⟨N, 0, none⟩)] w (Ret (.bool (hit nm z)) w) := by
  obtain ⟨zn, zb, zw, zv⟩ := z
  simp only [hit]
  have B0 : Below w.heap.size w (w.alloc (.cells #[.string zn, .int .i64 zb, .int .i64 zw, .int .i64 zv] 69)) := (by repeat (first | exact Below.refl _ _ | with_reducible assumption | (refine Below.drew ?_) | (refine Below.drewN ?_ _) | (refine Below.alloc ?_ (by simp; try omega) _) | (refine Below.setCell ?_ (by simp; try omega) _)))
  have X0 := Box.new w 69 #[.string zn, .int .i64 zb, .int .i64 zw, .int .i64 zv]
  have hc1 := (B0.cell (p := ⟨N, 0, none⟩) hN).trans hc
  have HB := hide B0
  have x0 := X0.cell 0
  have x1 := X0.cell 1
  simp only [List.getElem?_toArray, List.getElem?_cons_zero, List.getElem?_cons_succ] at x0 x1
  clear B0
  go_enter Try.func141, Try.ntmps141
  by_cases hz : zb = 0
  · have e1 : (zb != 0) = false := by rw [hz]; rfl
    have HV := hide (show (!decide (zb = 0) && decide (zn = nm)) = false by rw [decide_eq_true hz]; rfl)
    clear hz
    go_wp2_with fail
    go_ret
    exact ⟨by rw [HV.out]; rfl, HB.out⟩
  · have e1 : (zb != 0) = true := bne_iff_ne.2 hz
    have HV := hide (show (!decide (zb = 0) && decide (zn = nm)) = (zn.toList == nm.toList) by rw [decide_eq_false hz, str_eq]; rfl)
    clear hz
    generalize hq : (zn.toList == nm.toList) = q at *
    go_wp2_with fail
    go_ret
    exact ⟨by rw [HV.out]; rfl, HB.out⟩
theorem indexFunc_any (nm : ByteArray) (N : Nat) (A : Option Addr) (ys : List YD) (c : Nat) (w : World) (hr : Rd w w.heap.size A (cellsOf symbolC ys)) (hm : ys.length ≤ maxLen) (hN : N < w.heap.size) (hc : w.cell? ⟨N, 0, none⟩ = some (.string nm)) :
    Calls Try.prog 140 #[.slice A ys.length c, .func (.func 141) #[] #[.pointer (some ⟨N, 0, none⟩)]] w fun e w' => ∃ r : Int, e = .returned (.int .i64 r) ∧ decide (0 ≤ r) = ys.any (hit nm) ∧ Below w.heap.size w w' := by
  unfold maxLen at hm
  go_enter Try.func140, Try.ntmps140
  go_wp2
  go_loopw [8] (fun i wr => ∃ k : Nat, k ≤ ys.length ∧ i = .int .i64 k ∧ (ys.take k).any (hit nm) = false ∧ Below w.heap.size w wr) (fun i _ => ys.length - (intOf i).toNat)
  case atStart => exact ⟨0, Nat.zero_le _, rfl, rfl, Below.refl _ _⟩
  case round =>
    obtain ⟨k, hk, rfl, hn, hb⟩ := hrel
    have HB := hide hb
    by_cases hlt : k < ys.length
    · obtain ⟨b, off, rfl, hbb, hcc⟩ := (hr.below hb).row symbolC_len (by decide) hlt
      have hc0 := hcc 0 _ rfl
      have hc1 := hcc 1 _ rfl
      have hc2 := hcc 2 _ rfl
      have hc3 := hcc 3 _ rfl
      simp only [Nat.add_zero] at hc0
      have HS := hide (show (ys.take (k + 1)).any (hit nm) = hit nm ys[k] by rw [take_succ hlt, List.any_append, hn]; simp)
      have HT := hide (show hit nm ys[k] = true → ys.any (hit nm) = true from fun h => List.any_eq_true.2 ⟨_, List.getElem_mem hlt, h⟩)
      have HP := hide (fun z => pred_any nm N z wr (Nat.lt_of_lt_of_le hN hb.size) ((hb.cell (p := ⟨N, 0, none⟩) hN).trans hc))
      clear hr hb hcc hn hc
      generalize ys[k] = z at *
      have hpred := HP.out z
      cases h : hit nm z
      · have HS' := hide (HS.out.trans h)
        rw [h] at hpred
        clear HT HS h HP
        go_wp2_with fail
        refine hpred.mono ?_
        rintro e w2 ⟨rfl, b2⟩
        have HB' := hide (HB.out.trans (b2.mono HB.out.size))
        clear b2 hc0 hc1 hc2 hc3
        go_wp2_with fail
        refine ⟨⟨k + 1, by omega, by go_num, HS'.out, HB'.out⟩, by simp [intOf]; omega⟩
      · have HT' := hide (HT.out h)
        rw [h] at hpred
        clear HT HS h HP
        go_wp2_with fail
        refine hpred.mono ?_
        rintro e w2 ⟨rfl, b2⟩
        have HB' := hide (HB.out.trans (b2.mono HB.out.size))
        clear b2 hc0 hc1 hc2 hc3
        go_wp2_with fail
        go_ret
        exact ⟨k, rfl, by rw [HT'.out]; simp, HB'.out⟩
    · have HN := hide (show ys.any (hit nm) = false by rw [← hn, List.take_of_length_le (by omega)])
      clear hr hb hn hc
      go_wp2_with fail
      go_ret
      exact ⟨-1, rfl, by rw [HN.out]; rfl, HB.out⟩
theorem globalOf_any (nm : ByteArray) (A : Option Addr) (ys : List YD) (c : Nat) (w : World) (hr : Rd w w.heap.size A (cellsOf symbolC ys)) (hm : ys.length ≤ maxLen) :
    Calls Try.prog 84 #[.slice A ys.length c, .string nm] w fun e w' => ∃ r : Int, e = .returned (.int .i64 r) ∧ decide (0 ≤ r) = ys.any (hit nm) ∧ Below w.heap.size w w' := by
  have B0 : Below w.heap.size w (w.alloc (.cells #[.string nm] 9)) := (by repeat (first | exact Below.refl _ _ | with_reducible assumption | (refine Below.drew ?_) | (refine Below.drewN ?_ _) | (refine Below.alloc ?_ (by simp; try omega) _) | (refine Below.setCell ?_ (by simp; try omega) _)))
  have X0 := Box.new w 9 #[.string nm]
  have x0 := X0.cell 0
  simp only [List.getElem?_toArray, List.getElem?_cons_zero, List.getElem?_cons_succ] at x0
  have HX := hide (And.intro X0.lt x0)
  have HB := hide B0
  have HR := hide ((hr.below B0).more B0.size)
  clear B0 hr X0 x0
  go_enter Try.func84, Try.ntmps84
  go_wp2_with fail
  refine (indexFunc_any nm w.heap.size A ys c _ HR.out hm HX.out.1 HX.out.2).mono ?_
  rintro e w2 ⟨r, rfl, hr2, b2⟩
  have HB2 := hide (HB.out.trans (b2.mono HB.out.size))
  have H2 := hide hr2
  clear b2 hr2
  go_wp2_with fail
  go_ret
  exact ⟨r, rfl, H2.out, HB2.out⟩
end Go.Proofs.Ytmglgjchemecjaa.CGlobalOf
