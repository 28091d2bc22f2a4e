/- The reference's SectionValid. -/
import Derived.Test.YtmglgjchemecjaaCSecValid2
namespace Go.Proofs.Ytmglgjchemecjaa.CSecValid3
set_option maxRecDepth 200000
open Go.ChangeShapes Go.WideShapes Go.ChangeAt Go.RowKit Kit CCode CName CFixups CSymbols PObj BObj PValid CSecValid CSecValid2
theorem sec_big {many : Int} {d : SD} (h : ¬ d.zs.length ≤ 48 ∨ ¬ d.fs.length ≤ 6 ∨ inB d.sz 0 48 = false) : secOk many d = false := by
  rw [← Bool.not_eq_true]
  intro ht
  rw [secOk, Bool.and_eq_true] at ht
  obtain ⟨_, ht⟩ := ht
  split at ht
  · simp only [blankOk, Bool.and_eq_true, decide_eq_true_eq] at ht
    rcases h with h | h | h
    · omega
    · omega
    · rw [h] at ht
      exact absurd ht.1.1 (by decide)
  · simp only [bodyOk, Bool.and_eq_true, decide_eq_true_eq] at ht
    rcases h with h | h | h
    · omega
    · omega
    · rw [ht.1.1.1] at h
      exact absurd h (by decide)
theorem sectionValidS_any (p : SV) (many : Int) (w : World) (hr : RdS w w.heap.size p) (h0 : p.nm.size ≤ maxLen) (h1 : p.zs.length ≤ 1048576) (h2 : p.fs.length ≤ 1048576) :
    Calls Try.prog 74 #[.agg #[.string p.nm, .int .i64 p.kd, .int .i64 p.al, .slice p.A p.zs.length p.c, .int .i64 p.sz, .slice p.F p.fs.length p.fc], .int .i64 many] w (Ret (.bool (secOk many p.d)) w) := by
  obtain ⟨nm, kd, al, A, c, zs, sz, F, fc, fs⟩ := p
  have HR := hide hr.2
  have H0 := hide h0
  simp only [SV.d] at h0 h1 h2 ⊢
  clear hr h0
  have B0 : Below w.heap.size w (w.alloc (.cells #[.string nm, .int .i64 kd, .int .i64 al, .slice A zs.length c, .int .i64 sz, .slice F fs.length fc] 73)) := (by repeat (first | exact Below.refl _ _ | with_reducible assumption | (refine Below.drew ?_) | (refine Below.drewN ?_ _) | (refine Below.alloc ?_ (by simp; try omega) _) | (refine Below.setCell ?_ (by simp; try omega) _)))
  have X0 := Box.new w 73 #[.string nm, .int .i64 kd, .int .i64 al, .slice A zs.length c, .int .i64 sz, .slice F fs.length fc]
  have HB := hide B0
  have x0 := X0.cell 0
  have x1 := X0.cell 1
  have x2 := X0.cell 2
  have x3 := X0.cell 3
  have x4 := X0.cell 4
  have x5 := X0.cell 5
  simp only [List.getElem?_toArray, List.getElem?_cons_zero, List.getElem?_cons_succ] at x0 x1 x2 x3 x4 x5
  clear B0
  go_enter Try.func74, Try.ntmps74
  go_wp2_with fail
  generalize w.alloc (.cells #[.string nm, .int .i64 kd, .int .i64 al, .slice A zs.length c, .int .i64 sz, .slice F fs.length fc] 73) = w0 at *
  refine (nameValidS_any nm H0.out w0).mono ?_
  rintro e w' ⟨rfl, rfl⟩
  cases hn : nameOk nm
  · have HV := hide (sec_head (many := many) (d := ⟨nm, kd, al, zs, sz, fs⟩) (by simp [headOk, hn]))
    go_wp2_with fail
    go_ret
    exact ⟨by rw [HV.out]; rfl, HB.out⟩
  go_wp2_with fail
  refine (l1In_any _ _ _ _).mono ?_
  rintro e w' ⟨rfl, rfl⟩
  cases hk : inB kd 1 3
  · have HV := hide (sec_head (many := many) (d := ⟨nm, kd, al, zs, sz, fs⟩) (by simp [headOk, hk]))
    go_wp2_with fail
    go_ret
    exact ⟨by rw [HV.out]; rfl, HB.out⟩
  go_wp2_with fail
  refine (alignUp0_any _ _).mono ?_
  rintro e w' ⟨rfl, rfl⟩
  cases ha : alignOk al
  · have HV := hide (sec_head (many := many) (d := ⟨nm, kd, al, zs, sz, fs⟩) (by simp [headOk, ha]))
    simp only [cond_false]
    go_wp2_with fail
    go_ret
    exact ⟨by rw [HV.out]; rfl, HB.out⟩
  simp only [cond_true]
  have hh : headOk ⟨nm, kd, al, zs, sz, fs⟩ = true := by simp [headOk, hn, hk, ha]
  clear hn hk ha
  by_cases hz : zs.length ≤ 48
  case neg =>
    have HV := hide (sec_big (many := many) (d := ⟨nm, kd, al, zs, sz, fs⟩) (.inl hz))
    have ez : decide ((48 : Int) < zs.length) = true := decide_eq_true (by omega)
    clear hz
    go_wp2_with fail
    go_ret
    exact ⟨by rw [HV.out]; rfl, HB.out⟩
  have ez : decide ((48 : Int) < zs.length) = false := decide_eq_false (by omega)
  by_cases hf : fs.length ≤ 6
  case neg =>
    have HV := hide (sec_big (many := many) (d := ⟨nm, kd, al, zs, sz, fs⟩) (.inr (.inl hf)))
    have ef : decide ((6 : Int) < fs.length) = true := decide_eq_true (by omega)
    clear hf
    go_wp2_with fail
    go_ret
    exact ⟨by rw [HV.out]; rfl, HB.out⟩
  have ef : decide ((6 : Int) < fs.length) = false := decide_eq_false (by omega)
  have HHH := hide hh
  clear hh
  go_wp2_with fail
  refine (l1In_any _ _ _ _).mono ?_
  rintro e w' ⟨rfl, rfl⟩
  cases hs : inB sz 0 48
  · have HV := hide (sec_big (many := many) (d := ⟨nm, kd, al, zs, sz, fs⟩) (.inr (.inr hs)))
    clear hs
    go_wp2_with fail
    go_ret
    exact ⟨by rw [HV.out]; rfl, HB.out⟩
  by_cases hk3 : kd = 3
  · have HV := hide ((sec_blank (many := many) HHH.out hk3).trans (show blankOk ⟨nm, kd, al, zs, sz, fs⟩ = (inB sz 0 48 && decide (zs.length = 0) && decide (fs.length = 0)) from rfl))
    rw [hs] at HV
    have e3 : (kd == 3) = true := beq_iff_eq.2 hk3
    clear hk3 hs
    by_cases hz : zs.length = 0
    · have ez : ((zs.length : Int) == 0) = true := by rw [hz]; rfl
      rw [decide_eq_true hz] at HV
      by_cases hf : fs.length = 0
      · have ef : ((fs.length : Int) == 0) = true := by rw [hf]; rfl
        rw [decide_eq_true hf] at HV
        clear hz hf
        go_wp2_with fail
        go_ret
        exact ⟨by rw [HV.out]; rfl, HB.out⟩
      · have ef : ((fs.length : Int) == 0) = false := beq_eq_false_iff_ne.2 (by omega)
        rw [decide_eq_false hf] at HV
        clear hz hf
        go_wp2_with fail
        go_ret
        exact ⟨by rw [HV.out]; rfl, HB.out⟩
    · have ez : ((zs.length : Int) == 0) = false := beq_eq_false_iff_ne.2 (by omega)
      rw [decide_eq_false hz] at HV
      clear hz
      go_wp2_with fail
      go_ret
      exact ⟨by rw [HV.out]; simp, HB.out⟩
  · have hV := (sec_body (many := many) HHH.out hk3).trans (show bodyOk many ⟨nm, kd, al, zs, sz, fs⟩ = (decide (sz = 0) && decide (zs.length ≤ 48) && decide (fs.length ≤ 6) && fixesOk many zs.length 0 fs) from rfl)
    have HFF := hide (fun (h : fixesOk many zs.length 0 fs = false) => (show secOk many ⟨nm, kd, al, zs, sz, fs⟩ = false by rw [hV, h, Bool.and_false]))
    have HTT := hide (fun (h : fixesOk many zs.length 0 fs = true) => (show secOk many ⟨nm, kd, al, zs, sz, fs⟩ = decide (sz = 0) by rw [hV, h, decide_eq_true hz, decide_eq_true hf, Bool.and_true, Bool.and_true, Bool.and_true]))
    have e3 : (kd == 3) = false := beq_eq_false_iff_ne.2 hk3
    clear hk3 hV hs ez ef HHH
    go_wp2_with fail
    clear x0 x1 x2 x3 x4 x5 e3
    go_loopw [5, 6] (fun en ix wi => ∃ (k : Nat) (e : Int), k ≤ fs.length ∧ ix = .int .i64 k ∧ en = .int .i64 e ∧ 0 ≤ e ∧ e ≤ 48 ∧ fixesOk many zs.length 0 fs = fixesOk many zs.length e (fs.drop k) ∧ Box wi w.heap.size 73 #[.string nm, .int .i64 kd, .int .i64 al, .slice A zs.length c, .int .i64 sz, .slice F fs.length fc] ∧ Below w.heap.size w wi) (fun _ ix _ => fs.length - (intOf ix).toNat)
    case atStart => exact ⟨0, 0, Nat.zero_le _, rfl, rfl, by omega, by omega, rfl, X0, HB.out⟩
    case round =>
      obtain ⟨k, e, hk, rfl, rfl, he0, he1, hfx, hbx, hb⟩ := hrel
      have HBX := hide hbx
      have HBI := hide hb
      have x5 := hbx.cell 5
      have x4 := hbx.cell 4
      simp only [List.getElem?_toArray, List.getElem?_cons_zero, List.getElem?_cons_succ] at x4 x5
      clear X0 HB
      by_cases hlt : k < fs.length
      · obtain ⟨b, off, rfl, hbg, hc⟩ := (HR.out.below hb).row fixupC_len (by decide) hlt
        have hc0 := hc 0 _ rfl
        have hc1 := hc 1 _ rfl
        have hc2 := hc 2 _ rfl
        have hc3 := hc 3 _ rfl
        simp only [Nat.add_zero] at hc0
        have HFX := hide (hfx.trans (fixes_drop hlt))
        have HIF := hide (fixOk_iff (many := many) (n := zs.length) (e := e) (f := fs[k]))
        clear hfx hc hbx hb
        generalize fs[k] = f at *
        go_wp2_with fail
        have X1 := HBX.out.alloc (.cells #[.int .i64 f.1, .int .i64 f.2.1, .int .i64 f.2.2.1, .int .i64 f.2.2.2] 77)
        have Z1 := Box.new wr 77 #[.int .i64 f.1, .int .i64 f.2.1, .int .i64 f.2.2.1, .int .i64 f.2.2.2]
        have HB1 := hide (HBI.out.alloc HBI.out.size (.cells #[.int .i64 f.1, .int .i64 f.2.1, .int .i64 f.2.2.1, .int .i64 f.2.2.2] 77))
        generalize wr.alloc (.cells #[.int .i64 f.1, .int .i64 f.2.1, .int .i64 f.2.2.1, .int .i64 f.2.2.2] 77) = w1 at *
        generalize wr.heap.size = X at *
        have z0 := Z1.cell 0
        have z1 := Z1.cell 1
        have z2 := Z1.cell 2
        have z3 := Z1.cell 3
        have x3 := X1.cell 3
        simp only [List.getElem?_toArray, List.getElem?_cons_zero, List.getElem?_cons_succ] at z0 z1 z2 z3 x3
        have HX1 := hide X1
        have HZ1 := hide Z1
        clear HBX HBI X1 Z1 hc0 hc1 hc2 hc3 x4 x5
        refine (fixupWideS_any _ _).mono ?_
        rintro e' w2 ⟨rfl, b2⟩
        have X2 := HX1.out.call b2
        have Z2 := HZ1.out.call b2
        have HB2 := hide (HB1.out.trans (b2.mono HB1.out.size))
        have HX2 := hide X2
        clear z0 z1 z2 z3 x3 b2 HX1 HZ1 HB1
        have z0 := Z2.cell 0
        have z1 := Z2.cell 1
        have z2 := Z2.cell 2
        have z3 := Z2.cell 3
        have x3 := X2.cell 3
        simp only [List.getElem?_toArray, List.getElem?_cons_zero, List.getElem?_cons_succ] at z0 z1 z2 z3 x3
        clear X2 Z2
        have hwd := wide_bd f.2.1
        generalize hwg : wide f.2.1 = wd at *
        have HWG := hide hwg
        clear hwg
        by_cases g1 : wd = 0
        · have HN := hide (show fixOk many zs.length e f = false by rw [← Bool.not_eq_true, HIF.out]; omega)
          have e1 : (wd == 0) = true := beq_iff_eq.2 g1
          clear HIF g1 hwd
          go_wp2_with fail
          go_ret
          exact ⟨by rw [HFF.out (by rw [HFX.out, HN.out]; rfl)]; rfl, HB2.out⟩
        have e1 : (wd == 0) = false := beq_eq_false_iff_ne.2 g1
        by_cases g2 : f.2.2.1 < 0
        · have HN := hide (show fixOk many zs.length e f = false by rw [← Bool.not_eq_true, HIF.out]; omega)
          clear HIF g1
          go_wp2_with fail
          go_ret
          exact ⟨by rw [HFF.out (by rw [HFX.out, HN.out]; rfl)]; rfl, HB2.out⟩
        have e2 : decide (f.2.2.1 < 0) = false := decide_eq_false g2
        by_cases g3 : many ≤ f.2.2.1
        · have HN := hide (show fixOk many zs.length e f = false by rw [← Bool.not_eq_true, HIF.out]; omega)
          clear HIF g1 g2
          go_wp2_with fail
          go_ret
          exact ⟨by rw [HFF.out (by rw [HFX.out, HN.out]; rfl)]; rfl, HB2.out⟩
        have e3 : decide (many ≤ f.2.2.1) = false := decide_eq_false g3
        go_wp2_with fail
        refine (l1In_any _ _ _ _).mono ?_
        rintro e' w' ⟨rfl, rfl⟩
        by_cases g4 : -1000 ≤ f.2.2.2 ∧ f.2.2.2 ≤ 1000
        · rw [inB_t g4]
          go_wp2_with fail
          refine (l1In_any _ _ _ _).mono ?_
          rintro e' w' ⟨rfl, rfl⟩
          by_cases g5 : e ≤ f.1 ∧ f.1 ≤ zs.length - wd
          · rw [inB_t g5]
            have HY := hide (show fixOk many zs.length e f = true by rw [HIF.out]; omega)
            have HS := hide (show fixesOk many zs.length 0 fs = fixesOk many zs.length (f.1 + wd) (fs.drop (k + 1)) by rw [HFX.out, HY.out]; rfl)
            have hbd : 0 ≤ f.1 + wd ∧ f.1 + wd ≤ 48 := by omega
            clear HIF g1 g2 g3 g4 HFX HY
            go_wp2_with fail
            refine ⟨⟨k + 1, f.1 + wd, by omega, by go_num, rfl, hbd.1, hbd.2, HS.out, HX2.out, HB2.out⟩, by simp [intOf]; omega⟩
          · rw [inB_f g5]
            have HN := hide (show fixOk many zs.length e f = false by rw [← Bool.not_eq_true, HIF.out]; omega)
            clear HIF g1 g2 g3 g4 g5
            go_wp2_with fail
            go_ret
            exact ⟨by rw [HFF.out (by rw [HFX.out, HN.out]; rfl)]; rfl, HB2.out⟩
        · rw [inB_f g4]
          have HN := hide (show fixOk many zs.length e f = false by rw [← Bool.not_eq_true, HIF.out]; omega)
          clear HIF g1 g2 g3 g4
          go_wp2_with fail
          go_ret
          exact ⟨by rw [HFF.out (by rw [HFX.out, HN.out]; rfl)]; rfl, HB2.out⟩
      · have hE : fixesOk many zs.length 0 fs = true := by
          rw [hfx, List.drop_of_length_le (by omega)]
          rfl
        have HE := hide (HTT.out hE)
        clear hE hfx hbx hb
        by_cases hs : sz = 0
        · have es : (sz == 0) = true := beq_iff_eq.2 hs
          rw [decide_eq_true hs] at HE
          clear hs
          go_wp2_with fail
          go_ret
          exact ⟨by rw [HE.out]; rfl, HBI.out⟩
        · have es : (sz == 0) = false := beq_eq_false_iff_ne.2 hs
          rw [decide_eq_false hs] at HE
          clear hs
          go_wp2_with fail
          go_ret
          exact ⟨by rw [HE.out]; rfl, HBI.out⟩
end Go.Proofs.Ytmglgjchemecjaa.CSecValid3
