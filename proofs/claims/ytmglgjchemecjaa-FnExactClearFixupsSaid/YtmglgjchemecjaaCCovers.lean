/- The reference's l9Used; the program's covers. -/
import Derived.Test.YtmglgjchemecjaaCUses
import Derived.Test.YtmglgjchemecjaaCWarnings
import Derived.BigQuiet
namespace Go.Proofs.Ytmglgjchemecjaa.CCovers
set_option maxRecDepth 200000
open Go.ChangeShapes Go.WideShapes Go.ChangeAt Go.RowKit Kit CCode CFixups CSymbols PObj BObj PValid CSecValid CUses
theorem l9Used_any (o : OV) (n : Int) (w : World) (hr : RdO w w.heap.size o) (hm : o.ps.length ≤ maxLen) (hf : ∀ p ∈ o.ps, p.fs.length ≤ maxLen) :
    Calls Try.prog 45 #[.agg #[.slice o.A o.ps.length o.c, .slice o.Y o.ys.length o.yc], .int .i64 n] w (Ret (.bool (used o.d.ss n)) w) := by
  obtain ⟨A, c, ps, Y, yc, ys⟩ := o
  have hu : used (OV.d ⟨A, c, ps, Y, yc, ys⟩).ss n = ps.any (fun p => useS n p.fs) := by
    unfold used OV.d
    rw [List.any_map]
    rfl
  rw [hu]
  clear hu
  simp only at hm hf ⊢
  unfold maxLen at hm
  have HR := hide hr.1
  have HF := hide hf
  have B0 : Below w.heap.size w (w.alloc (.cells #[.slice A ps.length c, .slice Y ys.length yc] 26)) := (by repeat (first | exact Below.refl _ _ | with_reducible assumption | (refine Below.drew ?_) | (refine Below.drewN ?_ _) | (refine Below.alloc ?_ (by simp; try omega) _) | (refine Below.setCell ?_ (by simp; try omega) _)))
  have X0 := Box.new w 26 #[.slice A ps.length c, .slice Y ys.length yc]
  have HB := hide B0
  clear B0 hr hf
  go_enter Try.func45, Try.ntmps45
  go_wp2_with fail
  generalize w.alloc (.cells #[.slice A ps.length c, .slice Y ys.length yc] 26) = w0 at *
  go_loopw [5] (fun i wi => ∃ k : Nat, k ≤ ps.length ∧ i = .int .i64 k ∧ (ps.take k).any (fun p => useS n p.fs) = false ∧ Box wi w.heap.size 26 #[.slice A ps.length c, .slice Y ys.length yc] ∧ Below w.heap.size w wi) (fun i _ => ps.length - (intOf i).toNat)
  case atStart => exact ⟨0, Nat.zero_le _, rfl, rfl, X0, HB.out⟩
  case round =>
    obtain ⟨k, hk, rfl, hno, hx, hb⟩ := hrel
    have HX := hide hx
    have HBI := hide hb
    have x0 := hx.cell 0
    simp only [List.getElem?_toArray, List.getElem?_cons_zero, List.getElem?_cons_succ] at x0
    have hxl := hx.lt
    clear X0 HB
    by_cases hlt : k < ps.length
    · have HN := hide hno
      have HS := hide (show useS n ps[k].fs = false → (ps.take (k + 1)).any (fun p => useS n p.fs) = false from fun h => by rw [take_succ hlt, List.any_append, hno]; simp [h])
      have HT := hide (show useS n ps[k].fs = true → ps.any (fun p => useS n p.fs) = true from fun h => List.any_eq_true.2 ⟨_, List.getElem_mem hlt, h⟩)
      have hrow := (HR.out.1.below hb).row secC_len (by decide) hlt
      have HRF := hide (HR.out.2 _ (List.getElem_mem hlt)).2
      have hfl := HF.out _ (List.getElem_mem hlt)
      have HROW := hide (fun (V : World) (hV : Below w.heap.size w V) => (HR.out.1.below hV).row secC_len (by decide) hlt)
      obtain ⟨b, off, hA, hbg, hc⟩ := hrow
      subst hA
      clear hno hx hb hc
      unfold maxLen at hfl
      generalize hpk : ps[k] = p at *
      go_wp2_with fail
      go_loopw [6] (fun jj wi => ∃ j : Nat, j ≤ p.fs.length ∧ jj = .int .i64 j ∧ (p.fs.take j).any (useF n) = false ∧ Box wi w.heap.size 26 #[.slice (some ⟨b, off, none⟩) ps.length c, .slice Y ys.length yc] ∧ Below w.heap.size w wi) (fun jj _ => p.fs.length - (intOf jj).toNat)
      case atStart => exact ⟨0, Nat.zero_le _, rfl, rfl, HX.out, HBI.out⟩
      case round =>
        clear HX HBI x0 hxl
        obtain ⟨j, hj, rfl, hno, hx, hb⟩ := hrel
        have HX := hide hx
        have HBI := hide hb
        have x0 := hx.cell 0
        simp only [List.getElem?_toArray, List.getElem?_cons_zero, List.getElem?_cons_succ] at x0
        obtain ⟨b', off', hA', hbg', hc⟩ := HROW.out wr hb
        simp only [Option.some.injEq, Addr.mk.injEq, and_true] at hA'
        obtain ⟨rfl, rfl⟩ := hA'
        have hc5 := hc 5 _ rfl
        by_cases hjl : j < p.fs.length
        · obtain ⟨b2, off2, hF, hbg2, hcf⟩ := (HRF.out.below hb).row fixupC_len (by decide) hjl
          have hf2 := hcf 2 _ rfl
          have HS2 := hide (show useF n p.fs[j] = false → (p.fs.take (j + 1)).any (useF n) = false from fun h => by rw [take_succ hjl, List.any_append, hno]; simp [h])
          have HT2 := hide (show useF n p.fs[j] = true → useS n p.fs = true from fun h => List.any_eq_true.2 ⟨_, List.getElem_mem hjl, h⟩)
          rw [hF] at hc5
          clear hno hx hb hc hcf
          unfold useF at HS2 HT2
          generalize p.fs[j] = f at *
          cases hq : (f.2.2.1 == n)
          · have HS' := hide (HS2.out hq)
            clear HS2 HT2
            go_wp2_with fail
            refine ⟨⟨j + 1, by omega, by go_num, HS'.out, HX.out, HBI.out⟩, by simp [intOf]; omega⟩
          · have HV := hide (HT.out (HT2.out hq))
            clear HS2 HT2 HT HS
            go_wp2_with fail
            go_ret
            exact ⟨by rw [HV.out]; rfl, HBI.out⟩
        · have HS' := hide (HS.out (show p.fs.any (useF n) = false by rw [← hno, List.take_of_length_le (by omega)]))
          clear HS HT hno hx hb hc
          go_wp2_with fail
          refine ⟨⟨k + 1, by omega, by go_num, HS'.out, HX.out, HBI.out⟩, by simp [intOf]; omega⟩
    · have HV := hide (show ps.any (fun p => useS n p.fs) = false by rw [← hno, List.take_of_length_le (by omega)])
      clear hno hx hb
      go_wp2_with fail
      go_ret
      exact ⟨by rw [HV.out]; rfl, HBI.out⟩
/-- Whether a fixup fills a byte that is not 0. -/
def fills (zs : List Int) (f : FD) : List Int := (zs.drop f.1.toNat).take (wide f.2.1).toNat
def coverF (zs : List Int) (f : FD) : Bool := (fills zs f).any fun x => x != 0
def coverB (d : SD) : Bool := d.fs.any (coverF d.zs)
/-- All fixups lie in the bytes. -/
def InB (zs : List Int) (fs : List FD) : Prop := ∀ f ∈ fs, 0 ≤ f.1 ∧ f.1 + wide f.2.1 ≤ zs.length
theorem covers_any (p : SV) (w : World) (hr : RdS w w.heap.size p) (hz : p.zs.length ≤ 1048576) (hf : p.fs.length ≤ 1048576) (hcp : p.zs.length ≤ p.c) (hin : InB p.zs p.fs) :
    Calls Try.prog 44 #[.agg #[.string p.nm, .int .i64 p.kd, .int .i64 p.al, .slice p.A p.zs.length p.c, .int .i64 p.sz, .slice p.F p.fs.length p.fc]] w (Ret (.bool (coverB p.d)) w) := by
  obtain ⟨nm, kd, al, A, c, zs, sz, F, fc, fs⟩ := p
  have hcb : coverB (SV.d ⟨nm, kd, al, A, c, zs, sz, F, fc, fs⟩) = fs.any (coverF zs) := rfl
  rw [hcb]
  clear hcb
  simp only at hz hf hcp hin ⊢
  have HR := hide hr
  have HI := hide hin
  have B0 : Below w.heap.size w (w.alloc (.cells #[.string nm, .int .i64 kd, .int .i64 al, .slice A zs.length c, .int .i64 sz, .slice F fs.length fc] 73)) := (by repeat (first | exact Below.refl _ _ | with_reducible assumption | (refine Below.drew ?_) | (refine Below.drewN ?_ _) | (refine Below.alloc ?_ (by simp; try omega) _) | (refine Below.setCell ?_ (by simp; try omega) _)))
  have X0 := Box.new w 73 #[.string nm, .int .i64 kd, .int .i64 al, .slice A zs.length c, .int .i64 sz, .slice F fs.length fc]
  have HB := hide B0
  clear B0 hr hin
  go_enter Try.func44, Try.ntmps44
  go_wp2_with fail
  generalize w.alloc (.cells #[.string nm, .int .i64 kd, .int .i64 al, .slice A zs.length c, .int .i64 sz, .slice F fs.length fc] 73) = w0 at *
  go_loopw [10] (fun i wi => ∃ k : Nat, k ≤ fs.length ∧ i = .int .i64 k ∧ (fs.take k).any (coverF zs) = false ∧ Box wi w.heap.size 73 #[.string nm, .int .i64 kd, .int .i64 al, .slice A zs.length c, .int .i64 sz, .slice F fs.length fc] ∧ Below w.heap.size w wi) (fun i _ => fs.length - (intOf i).toNat)
  case atStart => exact ⟨0, Nat.zero_le _, rfl, rfl, X0, HB.out⟩
  case round =>
    obtain ⟨k, hk, rfl, hno, hx, hb⟩ := hrel
    have HX := hide hx
    have HBI := hide hb
    have hxl := hx.lt
    clear X0 HB
    by_cases hlt : k < fs.length
    · have HS := hide (show coverF zs fs[k] = false → (fs.take (k + 1)).any (coverF zs) = false from fun h => by rw [take_succ hlt, List.any_append, hno]; simp [h])
      have HT := hide (show coverF zs fs[k] = true → fs.any (coverF zs) = true from fun h => List.any_eq_true.2 ⟨_, List.getElem_mem hlt, h⟩)
      obtain ⟨b, off, hF, hbg, hc⟩ := (HR.out.2.below hb).row fixupC_len (by decide) hlt
      subst hF
      have hc0 := hc 0 _ rfl
      have hc1 := hc 1 _ rfl
      have hc2 := hc 2 _ rfl
      have hc3 := hc 3 _ rfl
      simp only [Nat.add_zero] at hc0
      have hi := HI.out _ (List.getElem_mem hlt)
      clear hno hx hb hc
      generalize fs[k] = f at *
      obtain ⟨f0, f1, f2, f3⟩ := f
      simp only at hc0 hc1 hc2 hc3 hi
      obtain ⟨i0, hi1⟩ := hi
      have hwd := wide_bd f1
      obtain ⟨a, rfl⟩ := Int.eq_ofNat_of_zero_le i0
      go_wp2_with fail
      have B1 : Below wr.heap.size wr (wr.alloc (.cells #[.int .i64 a, .int .i64 f1, .int .i64 f2, .int .i64 f3] 77)) := (by repeat (first | exact Below.refl _ _ | with_reducible assumption | (refine Below.drew ?_) | (refine Below.drewN ?_ _) | (refine Below.alloc ?_ (by simp; try omega) _) | (refine Below.setCell ?_ (by simp; try omega) _)))
      have HX1 := hide (HX.out.call B1)
      have HZ1 := hide (Box.new wr 77 #[.int .i64 a, .int .i64 f1, .int .i64 f2, .int .i64 f3])
      have HB1 := hide (HBI.out.trans (B1.mono HBI.out.size))
      clear B1 HX HBI hc0 hc1 hc2 hc3
      generalize wr.alloc (.cells #[.int .i64 a, .int .i64 f1, .int .i64 f2, .int .i64 f3] 77) = w1 at *
      generalize wr.heap.size = Z at *
      have z0 := HZ1.out.cell 0
      have z1 := HZ1.out.cell 1
      have x3 := HX1.out.cell 3
      simp only [List.getElem?_toArray, List.getElem?_cons_zero, List.getElem?_cons_succ] at z0 z1 x3
      have hzl := HZ1.out.lt
      have hxl1 := HX1.out.lt
      obtain ⟨wd, hwd'⟩ := Int.eq_ofNat_of_zero_le hwd.1
      have HWD := hide hwd'
      have HFW := hide (fun V => fixupWide_any f1 V)
      rw [hwd'] at HFW hi1
      clear hwd hwd'
      have hsum : a + wd ≤ zs.length := by omega
      have hw1 : IntKind.i64.wrap ((a : Int) + wd) = (a : Int) + wd := IntWalk.i64_in _ (by omega)
      have HFL := hide (show fills zs ((a : Int), f1, f2, f3) = (zs.drop a).take wd by unfold fills; simp only [HWD.out, Int.toNat_natCast])
      by_cases h0 : wd = 0
      · have HC := hide (HS.out (by unfold coverF; rw [HFL.out, h0]; rfl))
        have HW0 := hide h0
        clear HS HT HFL HWD h0
        cases A with
        | none =>
          go_quiet ((go_at_call 49; exact Pure.quiet (HFW.out _)))
          rw [HW0.out, show ((0 : Nat) : Int) = 0 from rfl]
          go_wp2_with fail
          go_loopw [26] (fun i wi => i = .int .i64 0 ∧ Box wi w.heap.size 73 #[.string nm, .int .i64 kd, .int .i64 al, .slice none zs.length c, .int .i64 sz, .slice (some ⟨b, off, none⟩) fs.length fc] ∧ Below w.heap.size w wi) (fun i _ => 0)
          case atStart => exact ⟨rfl, HX1.out.drewN _, Kit.Below.drewN HB1.out _⟩
          case round =>
            obtain ⟨rfl, hx, hb⟩ := hrel
            have HX2 := hide hx
            have HB2 := hide hb
            clear hx hb x3 z0 z1
            go_wp2_with fail
            refine ⟨⟨k + 1, by omega, by go_num, HC.out, HX2.out, HB2.out⟩, by simp [intOf]; omega⟩
        | some ad =>
          go_quiet ((go_at_call 49; exact Pure.quiet (HFW.out _)))
          rw [HW0.out, show ((0 : Nat) : Int) = 0 from rfl]
          generalize (if c = a then some ad else some (ad.add a)) = AX
          go_wp2_with fail
          go_loopw [26] (fun i wi => i = .int .i64 0 ∧ Box wi w.heap.size 73 #[.string nm, .int .i64 kd, .int .i64 al, .slice (some ad) zs.length c, .int .i64 sz, .slice (some ⟨b, off, none⟩) fs.length fc] ∧ Below w.heap.size w wi) (fun i _ => 0)
          case atStart => exact ⟨rfl, HX1.out.drewN _, Kit.Below.drewN HB1.out _⟩
          case round =>
            obtain ⟨rfl, hx, hb⟩ := hrel
            have HX2 := hide hx
            have HB2 := hide hb
            clear hx hb x3 z0 z1
            go_wp2_with fail
            refine ⟨⟨k + 1, by omega, by go_num, HC.out, HX2.out, HB2.out⟩, by simp [intOf]; omega⟩
      · have hai : a < zs.length := by omega
        obtain ⟨bA, oA, hA, hbA, _⟩ := (HR.out.1.below HB1.out).int hai
        subst hA
        have hca : ¬ c = a := by omega
        have e0 : a + wd - a = wd := by omega
        go_quiet ((go_at_call 49; exact Pure.quiet (HFW.out _)))
        rw [e0]
        have HX2 := hide (HX1.out.drewN nq)
        have HB2 := hide (Kit.Below.drewN HB1.out nq)
        clear HX1 HB1 x3 z0 z1 hzl hxl1 HZ1
        generalize w1.drewN nq = w2 at *
        go_wp2_with fail
        go_loopw [26] (fun i wi => ∃ j : Nat, j ≤ wd ∧ i = .int .i64 j ∧ (((zs.drop a).take j).any fun x => x != 0) = false ∧ Box wi w.heap.size 73 #[.string nm, .int .i64 kd, .int .i64 al, .slice (some ⟨bA, oA, none⟩) zs.length c, .int .i64 sz, .slice (some ⟨b, off, none⟩) fs.length fc] ∧ Below w.heap.size w wi) (fun i _ => wd - (intOf i).toNat)
        case atStart => exact ⟨0, Nat.zero_le _, rfl, rfl, HX2.out, HB2.out⟩
        case round =>
          obtain ⟨j, hj, rfl, hnz, hx, hb⟩ := hrel
          have HX3 := hide hx
          have HB3 := hide hb
          clear HX2 HB2
          by_cases hjl : j < wd
          · have haj : a + j < zs.length := by omega
            obtain ⟨b', o', hA', _, hcz⟩ := (HR.out.1.below hb).int haj
            simp only [Option.some.injEq, Addr.mk.injEq, and_true] at hA'
            obtain ⟨rfl, rfl⟩ := hA'
            rw [← Nat.add_assoc] at hcz
            have hdl : j < (zs.drop a).length := by rw [List.length_drop]; omega
            have hge : (zs.drop a)[j] = zs[a + j] := List.getElem_drop ..
            have HS2 := hide (show zs[a + j] = 0 → (((zs.drop a).take (j + 1)).any fun x => x != 0) = false from fun h => by
              rw [take_succ hdl, List.any_append, hnz, hge, h]
              rfl)
            have HT2 := hide (show zs[a + j] ≠ 0 → coverF zs ((a : Int), f1, f2, f3) = true from fun h => by
              unfold coverF
              rw [HFL.out]
              refine List.any_eq_true.2 ⟨zs[a + j], ?_, bne_iff_ne.2 h⟩
              rw [List.mem_take_iff_getElem]
              exact ⟨j, by omega, hge⟩)
            clear hnz hx hb hge hdl
            generalize zs[a + j] = z at *
            by_cases hzz : z = 0
            · have HS' := hide (HS2.out hzz)
              have e1 : (z != 0) = false := by rw [hzz]; rfl
              clear HS2 HT2 hzz
              go_wp2_with fail
              refine ⟨⟨j + 1, by omega, by go_num, HS'.out, HX3.out, HB3.out⟩, by simp [intOf]; omega⟩
            · have HV := hide (HT.out (HT2.out hzz))
              have e1 : (z != 0) = true := bne_iff_ne.2 hzz
              clear HS2 HT2 hzz HS HT
              go_wp2_with fail
              go_ret
              exact ⟨by rw [HV.out]; rfl, HB3.out⟩
          · have HC := hide (HS.out (by
              unfold coverF
              rw [HFL.out]
              rw [show wd = j by omega]
              exact hnz))
            clear HS HT hnz hx hb
            go_wp2_with fail
            refine ⟨⟨k + 1, by omega, by go_num, HC.out, HX3.out, HB3.out⟩, by simp [intOf]; omega⟩
    · have HV := hide (show fs.any (coverF zs) = false by rw [← hno, List.take_of_length_le (by omega)])
      clear hno hx hb
      go_wp2_with fail
      go_ret
      exact ⟨by rw [HV.out]; rfl, HBI.out⟩
end Go.Proofs.Ytmglgjchemecjaa.CCovers
