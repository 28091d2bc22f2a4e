/- DumpObject: the lines of an object; the reference's. -/
import Derived.Test.YtepoiphmmjfbdaaGreatDoorFnDeskLoadM11
import Derived.Test.YtepoiphmmjfbdaaGreatDoorRows
import Derived.Deep.QuietTactic
import Derived.BigQuiet
import Derived.StillTailTactics
import Derived.Deep.RegionHeld3
set_option linter.unusedSimpArgs false
set_option linter.unusedVariables false
namespace Go.Proofs.YtepoiphmmjfbdaaGreatDoor.CDumpS
set_option maxRecDepth 200000
open Go.ChangeShapes Go.WideShapes Go.ChangeAt Go.RowKit Kit CCode CName CFixups CSymbols PObj BObj PValid PClear CSecValid CObjValid CObjValidS CNumTxt PNum PDump CHexI CHexS CHexS CSorted CNames CWordsS BStore CLineI CDumpI
theorem num_of (n : Int) (h : Num n) : ∃ N : ByteArray, N = bs (Lib.itoa n) ∧ N.size ≤ 21 ∧ ∀ V, Calls Tryz.prog 40 #[.int .i64 n] V (Ret (.string N) V) := by
  unfold Num at h
  refine ⟨_, rfl, ?_, fun V => l8Number_any n V (by omega) (by omega)⟩
  rw [bs_size]
  exact Lib.itoa_length_le n (by omega) (by omega)
theorem sp_bs (a : List UInt8) : bs (32 :: a) = (⟨#[32]⟩ : ByteArray) ++ bs a := by
  rw [show (⟨#[32]⟩ : ByteArray) = bs [32] from rfl, bs_app]
  rfl
theorem cat (a b c : ByteArray) : a ++ (b ++ c) = a ++ b ++ c := (ByteArray.append_assoc).symm
theorem secText {s : ByteArray} {a b c : Int} {A B C : ByteArray} (hn : nameOk s = true) (hA : A = bs (Lib.itoa a)) (hB : B = bs (Lib.itoa b)) (hC : C = bs (Lib.itoa c)) :
    bs (lineW secW (nmL s) [a, b, c]) = (⟨#[115, 101, 99, 116, 105, 111, 110, 32]⟩ : ByteArray) ++ s ++ (⟨#[32]⟩ : ByteArray) ++ A ++ (⟨#[32]⟩ : ByteArray) ++ B ++ (⟨#[32]⟩ : ByteArray) ++ C := by
  have e : lineW secW (nmL s) [a, b, c] = [115, 101, 99, 116, 105, 111, 110, 32] ++ (nmL s ++ (32 :: (Lib.itoa a ++ (32 :: (Lib.itoa b ++ (32 :: Lib.itoa c)))))) := by
    unfold lineW
    rw [(nmW_ok hn).1]
    rfl
  rw [e, ← bs_app, ← bs_app, sp_bs, ← bs_app, sp_bs, ← bs_app, sp_bs, hA, hB, hC, bs_nm]
  simp only [cat]
  rfl
theorem symText {s : ByteArray} {a b c : Int} {A B C : ByteArray} (hn : nameOk s = true) (hA : A = bs (Lib.itoa a)) (hB : B = bs (Lib.itoa b)) (hC : C = bs (Lib.itoa c)) :
    bs (lineW symW (nmL s) [a, b, c]) = (⟨#[115, 121, 109, 98, 111, 108, 32]⟩ : ByteArray) ++ s ++ (⟨#[32]⟩ : ByteArray) ++ A ++ (⟨#[32]⟩ : ByteArray) ++ B ++ (⟨#[32]⟩ : ByteArray) ++ C := by
  have e : lineW symW (nmL s) [a, b, c] = [115, 121, 109, 98, 111, 108, 32] ++ (nmL s ++ (32 :: (Lib.itoa a ++ (32 :: (Lib.itoa b ++ (32 :: Lib.itoa c)))))) := by
    unfold lineW
    rw [(nmW_ok hn).1]
    rfl
  rw [e, ← bs_app, ← bs_app, sp_bs, ← bs_app, sp_bs, ← bs_app, sp_bs, hA, hB, hC, bs_nm]
  simp only [cat]
  rfl
theorem fixText {a b c d : Int} {A B C D : ByteArray} (hA : A = bs (Lib.itoa a)) (hB : B = bs (Lib.itoa b)) (hC : C = bs (Lib.itoa c)) (hD : D = bs (Lib.itoa d)) :
    bs (lineF (a, b, c, d)) = (⟨#[102, 105, 120, 117, 112, 32]⟩ : ByteArray) ++ A ++ (⟨#[32]⟩ : ByteArray) ++ B ++ (⟨#[32]⟩ : ByteArray) ++ C ++ (⟨#[32]⟩ : ByteArray) ++ D := by
  have e : lineF (a, b, c, d) = [102, 105, 120, 117, 112, 32] ++ (Lib.itoa a ++ (32 :: (Lib.itoa b ++ (32 :: (Lib.itoa c ++ (32 :: Lib.itoa d)))))) := rfl
  rw [e, ← bs_app, ← bs_app, sp_bs, ← bs_app, sp_bs, ← bs_app, sp_bs, hA, hB, hC, hD]
  simp only [cat]
  rfl
set_option maxHeartbeats 8000000 in
theorem dumpObjectS_any (o : OV) (w : World) (hr : RdO w w.heap.size o) (hf : Fit o) (hz : InD o.d) :
    Calls Tryz.prog 11 #[.agg #[.slice o.A o.ps.length o.c, .slice o.Y o.ys.length o.yc]] w (RetN ((dumpL o.d).map bs) w) := by
  obtain ⟨i0, hi1, hi2, hi3, hi4⟩ := info_parts infoStr
  have HI := hide (And.intro hi1 (And.intro hi2 (And.intro hi3 hi4)))
  clear hi1 hi2 hi3 hi4
  have HR := hide hr
  have HZ := hide hz
  have HF := hide hf
  clear hr hz hf
  have B0 : Below w.heap.size w ((w.alloc (.cells #[.slice o.A o.ps.length o.c, .slice o.Y o.ys.length o.yc] 26)).alloc (.cells #[] 9)) := (by repeat (first | exact Below.refl _ _ | with_reducible assumption | (refine Below.drew ?_) | (refine Below.drewN ?_ _) | (refine Below.alloc ?_ (by simp; try omega) _) | (refine Below.setCell ?_ (by simp; try omega) _)))
  have HB := hide B0
  have HX := hide ((Box.new w 26 #[.slice o.A o.ps.length o.c, .slice o.Y o.ys.length o.yc]).alloc (.cells #[] 9))
  have HV0 := hide (fun (V : World) (hb : Below w.heap.size w V) => objectValidS_any o V ((HR.out.below hb).more hb.size) HF.out)
  clear B0
  have hps := HF.out.np
  have hys := HF.out.ny
  go_enter Tryz.func11, Tryz.ntmps11
  go_wp2_with fail
  generalize (w.alloc (.cells #[.slice o.A o.ps.length o.c, .slice o.Y o.ys.length o.yc] 26)).alloc (.cells #[] 9) = w0 at *
  cases ho : objOk o.d

  · have HV := hide (show dumpL o.d = [] from by rw [dumpL, ho]; rfl)
    rw [ho] at HV0
    clear ho
    go_loopw [3, 4] (fun s i wi => s = .slice (some ⟨w.heap.size + 1, 0, none⟩) 0 0 ∧ i = .int .i64 0 ∧ Box wi w.heap.size 26 #[.slice o.A o.ps.length o.c, .slice o.Y o.ys.length o.yc] ∧ Below w.heap.size w wi) (fun _ _ _ => 0)
    case atStart => exact ⟨rfl, rfl, HX.out, HB.out⟩
    case round =>
      rename World => wk
      clear HX HB
      obtain ⟨rfl, rfl, hbox, hb⟩ := hrel
      have HX := hide hbox
      have HB := hide hb
      clear hbox hb
      by_cases hlt : 0 < o.ps.length
      · have hw0 := HX.out.lt
        have x0 := HX.out.cell 0
        have x1 := HX.out.cell 1
        simp only [List.getElem?_toArray, List.getElem?_cons_zero, List.getElem?_cons_succ] at x0 x1
        have hxl := HX.out.lt
        go_wp2_with fail
        refine (HV0.out wk HB.out).mono ?_
        rintro e w1 ⟨rfl, b1⟩
        replace HB := hide (HB.out.trans (b1.mono HB.out.size))
        replace HX := hide (HX.out.call b1)
        clear b1
        clear x0 x1 hxl hw0
        have x0 := HX.out.cell 0
        have x1 := HX.out.cell 1
        simp only [List.getElem?_toArray, List.getElem?_cons_zero, List.getElem?_cons_succ] at x0 x1
        have hxl := HX.out.lt
        go_wp2_with fail
        clear x0 x1 hxl
        go_loopw [3, 9] (fun s i wi => s = .slice (some ⟨w.heap.size + 1, 0, none⟩) 0 0 ∧ i = .int .i64 0 ∧ Box wi w.heap.size 26 #[.slice o.A o.ps.length o.c, .slice o.Y o.ys.length o.yc] ∧ Below w.heap.size w wi) (fun _ _ _ => 0)
        case atStart => exact ⟨rfl, rfl, HX.out, HB.out⟩
        case round =>
          rename World => wi
          clear HX HB
          obtain ⟨rfl, rfl, hbox, hb⟩ := hrel
          have HX := hide hbox
          have HB := hide hb
          clear hbox hb
          have x0 := HX.out.cell 0
          have x1 := HX.out.cell 1
          simp only [List.getElem?_toArray, List.getElem?_cons_zero, List.getElem?_cons_succ] at x0 x1
          have hxl := HX.out.lt
          by_cases hly : 0 < o.ys.length
          · go_wp2_with fail
            refine (HV0.out wi HB.out).mono ?_
            rintro e w2 ⟨rfl, b2⟩
            replace HB := hide (HB.out.trans (b2.mono HB.out.size))
            replace HX := hide (HX.out.call b2)
            clear b2
            clear x0 x1 hxl
            go_wp2_with fail
            go_ret
            rw [HV.out]
            exact ⟨some ⟨w.heap.size + 1, 0, none⟩, 0, by rfl, Row.empty _ _ _ _ _, HB.out⟩
          · go_wp2_with fail
            go_ret
            rw [HV.out]
            exact ⟨some ⟨w.heap.size + 1, 0, none⟩, 0, by rfl, Row.empty _ _ _ _ _, HB.out⟩
      · have hw0 := HX.out.lt
        have x0 := HX.out.cell 0
        have x1 := HX.out.cell 1
        simp only [List.getElem?_toArray, List.getElem?_cons_zero, List.getElem?_cons_succ] at x0 x1
        have hxl := HX.out.lt
        go_wp2_with fail
        clear x0 x1 hxl hw0
        go_loopw [3, 9] (fun s i wi => s = .slice (some ⟨w.heap.size + 1, 0, none⟩) 0 0 ∧ i = .int .i64 0 ∧ Box wi w.heap.size 26 #[.slice o.A o.ps.length o.c, .slice o.Y o.ys.length o.yc] ∧ Below w.heap.size w wi) (fun _ _ _ => 0)
        case atStart => exact ⟨rfl, rfl, HX.out, HB.out⟩
        case round =>
          rename World => wi
          clear HX HB
          obtain ⟨rfl, rfl, hbox, hb⟩ := hrel
          have HX := hide hbox
          have HB := hide hb
          clear hbox hb
          have x0 := HX.out.cell 0
          have x1 := HX.out.cell 1
          simp only [List.getElem?_toArray, List.getElem?_cons_zero, List.getElem?_cons_succ] at x0 x1
          have hxl := HX.out.lt
          by_cases hly : 0 < o.ys.length
          · go_wp2_with fail
            refine (HV0.out wi HB.out).mono ?_
            rintro e w2 ⟨rfl, b2⟩
            replace HB := hide (HB.out.trans (b2.mono HB.out.size))
            replace HX := hide (HX.out.call b2)
            clear b2
            clear x0 x1 hxl
            go_wp2_with fail
            go_ret
            rw [HV.out]
            exact ⟨some ⟨w.heap.size + 1, 0, none⟩, 0, by rfl, Row.empty _ _ _ _ _, HB.out⟩
          · go_wp2_with fail
            go_ret
            rw [HV.out]
            exact ⟨some ⟨w.heap.size + 1, 0, none⟩, 0, by rfl, Row.empty _ _ _ _ _, HB.out⟩
  have HV := hide (dump_ok ho)
  have HG := hide (good_O ho HZ.out)
  have HALL := hide (obj_all ho)
  rw [ho] at HV0
  clear hps hys
  have hps : o.ps.length ≤ 8 := by have := HALL.out.1; simpa [OV.d] using this
  have hys : o.ys.length ≤ 12 := HALL.out.2.1
  clear ho
  go_loopw [3, 4] (fun s i wi => ∃ (k : Nat) (A1 : Option Addr) (c1 : Nat) (ls : List (List UInt8)), k ≤ o.ps.length ∧ s = .slice A1 ls.length c1 ∧ i = .int .i64 k ∧ ls = linesSs ((o.ps.take k).map SV.d) ∧ ls.length ≤ 7 * k ∧ Row wi w.heap.size 9 1 A1 ls.length c1 (nmC (ls.map bs)) ∧ Box wi w.heap.size 26 #[.slice o.A o.ps.length o.c, .slice o.Y o.ys.length o.yc] ∧ Below w.heap.size w wi) (fun _ i _ => o.ps.length - (intOf i).toNat)
  case atStart => exact ⟨0, _, 0, [], Nat.zero_le _, rfl, rfl, rfl, Nat.le_refl _, Row.empty _ _ _ _ _, HX.out, HB.out⟩
  case round =>
    rename World => wk
    clear HX HB
    obtain ⟨k, A1, c1, ls, hk, rfl, rfl, hls, hll, hrow, hbox, hb⟩ := hrel
    have HLS := hide hls
    have HW := hide hrow
    have HX := hide hbox
    have HB := hide hb
    clear hls hrow hbox hb
    have x0 := HX.out.cell 0
    have x1 := HX.out.cell 1
    simp only [List.getElem?_toArray, List.getElem?_cons_zero, List.getElem?_cons_succ] at x0 x1
    have hxl := HX.out.lt
    by_cases hlt : k < o.ps.length
    · go_wp2_with fail
      refine (HV0.out wk HB.out).mono ?_
      rintro e w1 ⟨rfl, b1⟩
      clear x0 x1 hxl
      replace HB := hide (HB.out.trans (b1.mono HB.out.size))
      replace HX := hide (HX.out.call b1)
      replace HW := hide (HW.out.call b1)
      clear b1
      have x0 := HX.out.cell 0
      have x1 := HX.out.cell 1
      simp only [List.getElem?_toArray, List.getElem?_cons_zero, List.getElem?_cons_succ] at x0 x1
      have hxl := HX.out.lt
      obtain ⟨b, off, hA, hbb, hc⟩ := (HR.out.1.1.below HB.out).row secC_len (by decide) hlt
      have hc0 := hc 0 _ rfl
      have hc1 := hc 1 _ rfl
      have hc2 := hc 2 _ rfl
      have hc3 := hc 3 _ rfl
      have hc4 := hc 4 _ rfl
      have hc5 := hc 5 _ rfl
      simp only [Nat.add_zero] at hc0
      have HSN := hide (linesSs_snoc hlt)
      have HGS := hide (HG.out.1 (o.ps[k]).d (List.mem_map_of_mem (List.getElem_mem hlt)))
      have HIZ := hide (HZ.out (o.ps[k]).d (List.mem_map_of_mem (List.getElem_mem hlt)))
      have HAL := hide (HALL.out.2.2 (o.ps[k]).d (List.mem_map_of_mem (List.getElem_mem hlt)))
      have HRS := hide (HR.out.1.2 _ (List.getElem_mem hlt))
      have HA := hide hA
      rw [hA] at x0
      clear hc hA
      generalize o.ps[k] = p at *
      have hzl : p.zs.length ≤ 48 := HAL.out.2.1
      have hfl : p.fs.length ≤ 6 := HAL.out.1
      have B1 : Below w1.heap.size w1 (w1.alloc (.cells #[.string p.nm, .int .i64 p.kd, .int .i64 p.al, .slice p.A p.zs.length p.c, .int .i64 p.sz, .slice p.F p.fs.length p.fc] 61)) := (by repeat (first | exact Below.refl _ _ | with_reducible assumption | (refine Below.drew ?_) | (refine Below.drewN ?_ _) | (refine Below.alloc ?_ (by simp; try omega) _) | (refine Below.setCell ?_ (by simp; try omega) _)))
      have HS := hide (Box.new w1 61 #[.string p.nm, .int .i64 p.kd, .int .i64 p.al, .slice p.A p.zs.length p.c, .int .i64 p.sz, .slice p.F p.fs.length p.fc])
      replace HB := hide (HB.out.trans (B1.mono HB.out.size))
      replace HX := hide (HX.out.call B1)
      replace HW := hide (HW.out.call B1)
      clear B1
      go_wp2_with fail
      clear hc0 hc1 hc2 hc3 hc4 hc5 x0 x1
      generalize w1.alloc (.cells #[.string p.nm, .int .i64 p.kd, .int .i64 p.al, .slice p.A p.zs.length p.c, .int .i64 p.sz, .slice p.F p.fs.length p.fc] 61) = wa at *
      generalize w1.heap.size = S at *
      have hN8 : p.nm.size ≤ 8 := (nmW_ok HGS.out.1.nm).2
      obtain ⟨N1, hN1, q1, C1⟩ := num_of _ HGS.out.1.kd
      obtain ⟨N2, hN2, q2, C2⟩ := num_of _ HGS.out.1.al
      obtain ⟨N3, hN3, q3, C3⟩ := num_of _ HGS.out.1.size
      have HL1 := hide (show bs (lineW secW (nmL p.nm) [p.kd, p.al, secSize p.d]) = (⟨#[115, 101, 99, 116, 105, 111, 110, 32]⟩ : ByteArray) ++ p.nm ++ (⟨#[32]⟩ : ByteArray) ++ N1 ++ (⟨#[32]⟩ : ByteArray) ++ N2 ++ (⟨#[32]⟩ : ByteArray) ++ N3 from secText HGS.out.1.nm hN1 hN2 hN3)
      have HC1 := hide C1
      have HC2 := hide C2
      have HC3 := hide C3
      have HLN := hide (lineS_eq HGS.out.1.nm)
      clear hN1 hN2 hN3 C1 C2 C3
      have g1 : ¬ 9223372036854775807 < 8 + p.nm.size := by omega
      have g2 : ¬ 9223372036854775807 < 8 + p.nm.size + 1 := by omega
      have g3 : ¬ 9223372036854775807 < 8 + p.nm.size + 1 + N1.size := by omega
      have g4 : ¬ 9223372036854775807 < 8 + p.nm.size + 1 + N1.size + 1 := by omega
      have g5 : ¬ 9223372036854775807 < 8 + p.nm.size + 1 + N1.size + 1 + N2.size := by omega
      have g6 : ¬ 9223372036854775807 < 8 + p.nm.size + 1 + N1.size + 1 + N2.size + 1 := by omega
      have g7 : ¬ 9223372036854775807 < 8 + p.nm.size + 1 + N1.size + 1 + N2.size + 1 + N3.size := by omega
      have hsl := HS.out.lt
      refine Reg.startT (fun W => W.cell? ⟨S, 0, none⟩ = some (.string p.nm) ∧ W.cell? ⟨S, 1, none⟩ = some (.int .i64 p.kd) ∧ W.cell? ⟨S, 2, none⟩ = some (.int .i64 p.al) ∧ W.cell? ⟨S, 3, none⟩ = some (.slice p.A p.zs.length p.c) ∧ W.cell? ⟨S, 4, none⟩ = some (.int .i64 p.sz) ∧ W.cell? ⟨S, 5, none⟩ = some (.slice p.F p.fs.length p.fc)) (fun _ => false) (by kernel_rfl) ?_
      have hHeld : wa.drew.cell? ⟨S, 0, none⟩ = some (.string p.nm) ∧ wa.drew.cell? ⟨S, 1, none⟩ = some (.int .i64 p.kd) ∧ wa.drew.cell? ⟨S, 2, none⟩ = some (.int .i64 p.al) ∧ wa.drew.cell? ⟨S, 3, none⟩ = some (.slice p.A p.zs.length p.c) ∧ wa.drew.cell? ⟨S, 4, none⟩ = some (.int .i64 p.sz) ∧ wa.drew.cell? ⟨S, 5, none⟩ = some (.slice p.F p.fs.length p.fc) := Six.of HS.out
      refine Reg.takeT (i := 0) (v := ?_) rfl (by kernel_rfl) (by kernel_rfl) (by kernel_rfl) (by kernel_rfl) (fun _ _ _ h => h) (Or.inl ⟨by rfl, ?_⟩) (by assumption) ?_
      rotate_left 1
      focus (intro w hSw; (try dsimp only at hSw); go_simp; (try with_reducible rfl))
      try simp only [List.getElem_toArray, List.getElem_cons_succ, List.getElem_cons_zero, Act.put, List.setIfInBounds_toArray, List.set_cons_zero, List.set_cons_succ]
      refine Reg.takeT (i := 1) (v := ?_) rfl (by kernel_rfl) (by kernel_rfl) (by kernel_rfl) (by kernel_rfl) (fun _ _ _ h => h) (Or.inl ⟨by rfl, ?_⟩) (by assumption) ?_
      rotate_left 1
      focus (intro w hSw; (try dsimp only at hSw); go_simp; (try with_reducible rfl))
      try simp only [List.getElem_toArray, List.getElem_cons_succ, List.getElem_cons_zero, Act.put, List.setIfInBounds_toArray, List.set_cons_zero, List.set_cons_succ]
      refine Reg.takeT (i := 2) (v := ?_) rfl (by kernel_rfl) (by kernel_rfl) (by kernel_rfl) (by kernel_rfl) (fun _ _ _ h => h) (Or.inl ⟨by rfl, ?_⟩) (by assumption) ?_
      rotate_left 1
      focus (intro w hSw; (try dsimp only at hSw); go_simp; (try with_reducible rfl))
      try simp only [List.getElem_toArray, List.getElem_cons_succ, List.getElem_cons_zero, Act.put, List.setIfInBounds_toArray, List.set_cons_zero, List.set_cons_succ]
      refine Reg.takeT (i := 3) (v := ?_) rfl (by kernel_rfl) (by kernel_rfl) (by kernel_rfl) (by kernel_rfl) (fun _ _ _ h => h) (Or.inl ⟨by rfl, ?_⟩) (by assumption) ?_
      rotate_left 1
      focus (intro w hSw; (try dsimp only at hSw); go_simp; (try with_reducible rfl))
      try simp only [List.getElem_toArray, List.getElem_cons_succ, List.getElem_cons_zero, Act.put, List.setIfInBounds_toArray, List.set_cons_zero, List.set_cons_succ]
      refine Reg.takeT (i := 4) (v := ?_) rfl (by kernel_rfl) (by kernel_rfl) (by kernel_rfl) (by kernel_rfl) (fun _ _ _ h => h) (Or.inl ⟨by rfl, ?_⟩) (by assumption) ?_
      rotate_left 1
      focus (intro w hSw; (try dsimp only at hSw); go_simp; (try with_reducible rfl))
      try simp only [List.getElem_toArray, List.getElem_cons_succ, List.getElem_cons_zero, Act.put, List.setIfInBounds_toArray, List.set_cons_zero, List.set_cons_succ]
      refine Reg.takeT (i := 5) (v := ?_) rfl (by kernel_rfl) (by kernel_rfl) (by kernel_rfl) (by kernel_rfl) (fun _ _ _ h => h) (Or.inl ⟨by rfl, ?_⟩) (by assumption) ?_
      rotate_left 1
      focus (intro w hSw; (try dsimp only at hSw); go_simp; (try with_reducible rfl))
      try simp only [List.getElem_toArray, List.getElem_cons_succ, List.getElem_cons_zero, Act.put, List.setIfInBounds_toArray, List.set_cons_zero, List.set_cons_succ]
      refine Reg.takeT (i := 9) (v := ?_) rfl (by kernel_rfl) (by kernel_rfl) (by kernel_rfl) (by kernel_rfl) (fun _ _ _ h => h) (Or.inl ⟨by rfl, ?_⟩) (by assumption) ?_
      rotate_left 1
      focus (intro w hSw; (try dsimp only at hSw); go_simp; (try with_reducible rfl))
      try simp only [List.getElem_toArray, List.getElem_cons_succ, List.getElem_cons_zero, Act.put, List.setIfInBounds_toArray, List.set_cons_zero, List.set_cons_succ]
      refine Reg.takeT (i := 10) (v := ?_) rfl (by kernel_rfl) (by kernel_rfl) (by kernel_rfl) (by kernel_rfl) (fun _ _ _ h => h) (Or.inl ⟨by rfl, ?_⟩) (by assumption) ?_
      rotate_left 1
      focus (intro w hSw; (try dsimp only at hSw); go_simp; (try with_reducible rfl))
      try simp only [List.getElem_toArray, List.getElem_cons_succ, List.getElem_cons_zero, Act.put, List.setIfInBounds_toArray, List.set_cons_zero, List.set_cons_succ]
      refine Reg.takeT (i := 14) (v := ?_) rfl (by kernel_rfl) (by kernel_rfl) (by kernel_rfl) (by kernel_rfl) (fun _ _ _ h => h) (Or.inl ⟨by rfl, ?_⟩) (by assumption) ?_
      rotate_left 1
      focus (intro w hSw; (try dsimp only at hSw); go_simp; (try with_reducible rfl))
      try simp only [List.getElem_toArray, List.getElem_cons_succ, List.getElem_cons_zero, Act.put, List.setIfInBounds_toArray, List.set_cons_zero, List.set_cons_succ]
      refine Reg.oneT (i := 6) rfl (by kernel_rfl) (fun K hK => ?_)
      go_simp
      refine (HC1.out _).mono ?_
      rintro e w3 ⟨rfl, bb⟩
      have b3 := of_drew bb
      clear bb
      replace HB := hide (HB.out.trans (b3.mono HB.out.size))
      replace HX := hide (HX.out.call b3)
      replace HW := hide (HW.out.call b3)
      replace HS := hide (HS.out.call b3)
      clear b3
      have hHeld : w3.cell? ⟨S, 0, none⟩ = some (.string p.nm) ∧ w3.cell? ⟨S, 1, none⟩ = some (.int .i64 p.kd) ∧ w3.cell? ⟨S, 2, none⟩ = some (.int .i64 p.al) ∧ w3.cell? ⟨S, 3, none⟩ = some (.slice p.A p.zs.length p.c) ∧ w3.cell? ⟨S, 4, none⟩ = some (.int .i64 p.sz) ∧ w3.cell? ⟨S, 5, none⟩ = some (.slice p.F p.fs.length p.fc) := Six.of HS.out
      refine hK.out _ _ hHeld ?_
      clear hK K
      try simp only [List.getElem_toArray, List.getElem_cons_succ, List.getElem_cons_zero, Act.put, List.setIfInBounds_toArray, List.set_cons_zero, List.set_cons_succ]
      refine Reg.takeT (i := 7) (v := ?_) rfl (by kernel_rfl) (by kernel_rfl) (by kernel_rfl) (by kernel_rfl) (fun _ _ _ h => h) (Or.inl ⟨by rfl, ?_⟩) (by assumption) ?_
      rotate_left 1
      focus (intro w hSw; (try dsimp only at hSw); go_simp; (try with_reducible rfl))
      try simp only [List.getElem_toArray, List.getElem_cons_succ, List.getElem_cons_zero, Act.put, List.setIfInBounds_toArray, List.set_cons_zero, List.set_cons_succ]
      refine Reg.takeT (i := 8) (v := ?_) rfl (by kernel_rfl) (by kernel_rfl) (by kernel_rfl) (by kernel_rfl) (fun _ _ _ h => h) (Or.inl ⟨by rfl, ?_⟩) (by assumption) ?_
      rotate_left 1
      focus (intro w hSw; (try dsimp only at hSw); go_simp; (try with_reducible rfl))
      try simp only [List.getElem_toArray, List.getElem_cons_succ, List.getElem_cons_zero, Act.put, List.setIfInBounds_toArray, List.set_cons_zero, List.set_cons_succ]
      refine Reg.oneT (i := 11) rfl (by kernel_rfl) (fun K hK => ?_)
      go_simp
      refine (HC2.out _).mono ?_
      rintro e w4 ⟨rfl, bb⟩
      replace HB := hide (HB.out.trans (bb.mono HB.out.size))
      replace HX := hide (HX.out.call bb)
      replace HW := hide (HW.out.call bb)
      replace HS := hide (HS.out.call bb)
      clear bb
      have hHeld : w4.cell? ⟨S, 0, none⟩ = some (.string p.nm) ∧ w4.cell? ⟨S, 1, none⟩ = some (.int .i64 p.kd) ∧ w4.cell? ⟨S, 2, none⟩ = some (.int .i64 p.al) ∧ w4.cell? ⟨S, 3, none⟩ = some (.slice p.A p.zs.length p.c) ∧ w4.cell? ⟨S, 4, none⟩ = some (.int .i64 p.sz) ∧ w4.cell? ⟨S, 5, none⟩ = some (.slice p.F p.fs.length p.fc) := Six.of HS.out
      refine hK.out _ _ hHeld ?_
      clear hK K
      try simp only [List.getElem_toArray, List.getElem_cons_succ, List.getElem_cons_zero, Act.put, List.setIfInBounds_toArray, List.set_cons_zero, List.set_cons_succ]
      refine Reg.takeT (i := 12) (v := ?_) rfl (by kernel_rfl) (by kernel_rfl) (by kernel_rfl) (by kernel_rfl) (fun _ _ _ h => h) (Or.inl ⟨by rfl, ?_⟩) (by assumption) ?_
      rotate_left 1
      focus (intro w hSw; (try dsimp only at hSw); go_simp; (try with_reducible rfl))
      try simp only [List.getElem_toArray, List.getElem_cons_succ, List.getElem_cons_zero, Act.put, List.setIfInBounds_toArray, List.set_cons_zero, List.set_cons_succ]
      refine Reg.takeT (i := 13) (v := ?_) rfl (by kernel_rfl) (by kernel_rfl) (by kernel_rfl) (by kernel_rfl) (fun _ _ _ h => h) (Or.inl ⟨by rfl, ?_⟩) (by assumption) ?_
      rotate_left 1
      focus (intro w hSw; (try dsimp only at hSw); go_simp; (try with_reducible rfl))
      try simp only [List.getElem_toArray, List.getElem_cons_succ, List.getElem_cons_zero, Act.put, List.setIfInBounds_toArray, List.set_cons_zero, List.set_cons_succ]
      refine Reg.oneT (i := 15) rfl (by kernel_rfl) (fun K hK => ?_)
      go_simp
      refine (sectionSizeS_any p _ (by unfold maxLen; omega)).mono ?_
      rintro e w5 ⟨rfl, bb⟩
      replace HB := hide (HB.out.trans (bb.mono HB.out.size))
      replace HX := hide (HX.out.call bb)
      replace HW := hide (HW.out.call bb)
      replace HS := hide (HS.out.call bb)
      clear bb
      have hHeld : w5.cell? ⟨S, 0, none⟩ = some (.string p.nm) ∧ w5.cell? ⟨S, 1, none⟩ = some (.int .i64 p.kd) ∧ w5.cell? ⟨S, 2, none⟩ = some (.int .i64 p.al) ∧ w5.cell? ⟨S, 3, none⟩ = some (.slice p.A p.zs.length p.c) ∧ w5.cell? ⟨S, 4, none⟩ = some (.int .i64 p.sz) ∧ w5.cell? ⟨S, 5, none⟩ = some (.slice p.F p.fs.length p.fc) := Six.of HS.out
      refine hK.out _ _ hHeld ?_
      clear hK K
      try simp only [List.getElem_toArray, List.getElem_cons_succ, List.getElem_cons_zero, Act.put, List.setIfInBounds_toArray, List.set_cons_zero, List.set_cons_succ]
      refine Reg.oneT (i := 16) rfl (by kernel_rfl) (fun K hK => ?_)
      go_simp
      refine (HC3.out _).mono ?_
      rintro e w6 ⟨rfl, bb⟩
      replace HB := hide (HB.out.trans (bb.mono HB.out.size))
      replace HX := hide (HX.out.call bb)
      replace HW := hide (HW.out.call bb)
      replace HS := hide (HS.out.call bb)
      clear bb
      have hHeld : w6.cell? ⟨S, 0, none⟩ = some (.string p.nm) ∧ w6.cell? ⟨S, 1, none⟩ = some (.int .i64 p.kd) ∧ w6.cell? ⟨S, 2, none⟩ = some (.int .i64 p.al) ∧ w6.cell? ⟨S, 3, none⟩ = some (.slice p.A p.zs.length p.c) ∧ w6.cell? ⟨S, 4, none⟩ = some (.int .i64 p.sz) ∧ w6.cell? ⟨S, 5, none⟩ = some (.slice p.F p.fs.length p.fc) := Six.of HS.out
      refine hK.out _ _ hHeld ?_
      clear hK K
      try simp only [List.getElem_toArray, List.getElem_cons_succ, List.getElem_cons_zero, Act.put, List.setIfInBounds_toArray, List.set_cons_zero, List.set_cons_succ]
      refine Reg.takeT (i := 17) (v := ?_) rfl (by kernel_rfl) (by kernel_rfl) (by kernel_rfl) (by kernel_rfl) (fun _ _ _ h => h) (Or.inl ⟨by rfl, ?_⟩) (by assumption) ?_
      rotate_left 1
      focus (intro w hSw; (try dsimp only at hSw); go_simp; (try with_reducible rfl))
      try simp only [List.getElem_toArray, List.getElem_cons_succ, List.getElem_cons_zero, Act.put, List.setIfInBounds_toArray, List.set_cons_zero, List.set_cons_succ]
      refine Reg.takeT (i := 18) (v := ?_) rfl (by kernel_rfl) (by kernel_rfl) (by kernel_rfl) (by kernel_rfl) (fun _ _ _ h => h) (Or.inl ⟨by rfl, ?_⟩) (by assumption) ?_
      rotate_left 1
      focus (intro w hSw; (try dsimp only at hSw); go_simp; (try with_reducible rfl))
      try simp only [List.getElem_toArray, List.getElem_cons_succ, List.getElem_cons_zero, Act.put, List.setIfInBounds_toArray, List.set_cons_zero, List.set_cons_succ]
      clear hHeld
      refine Reg.doneT (by kernel_rfl) ?_ _
      clear g1 g2 g3 g4 g5 g6 g7 hsl HC1 HC2 HC3
      have hls8 : (⟨#[115, 101, 99, 116, 105, 111, 110, 32]⟩ : ByteArray).size = 8 := rfl
      have hls1 : (⟨#[32]⟩ : ByteArray).size = 1 := rfl
      have HLZ := hide (show ((⟨#[115, 101, 99, 116, 105, 111, 110, 32]⟩ : ByteArray) ++ p.nm ++ (⟨#[32]⟩ : ByteArray) ++ N1 ++ (⟨#[32]⟩ : ByteArray) ++ N2 ++ (⟨#[32]⟩ : ByteArray) ++ N3).size ≤ 1000000 from by
        simp only [ByteArray.size_append, hls8, hls1]
        omega)
      clear hls8 hls1
      generalize (⟨#[115, 101, 99, 116, 105, 111, 110, 32]⟩ : ByteArray) ++ p.nm ++ (⟨#[32]⟩ : ByteArray) ++ N1 ++ (⟨#[32]⟩ : ByteArray) ++ N2 ++ (⟨#[32]⟩ : ByteArray) ++ N3 = L1 at *
      clear q1 q2 q3
      have s3 := HS.out.cell 3
      simp only [List.getElem?_toArray, List.getElem?_cons_zero, List.getElem?_cons_succ] at s3
      have hsl := HS.out.lt
      go_upto_if 49 with (fail)
      go_cut [6] from 49 to 55 (fun v wx => v = .string (bs (lineS p.d)) ∧ Below w6.heap.size w6 wx)
      case first =>
        by_cases h0 : p.zs.length = 0
        · have hd : decide (0 < p.zs.length) = false := decide_eq_false (by omega)
          have HQ := hide (show bs (lineS p.d) = L1 from by
            rw [HLN.out, if_pos (show p.d.zs.length = 0 from h0)]
            exact HL1.out)
          clear h0
          simp only [hd]
          go_wp2_with fail
          go_meet
          exact ⟨by rw [HQ.out], Below.refl _ _⟩
        · have hd : decide (0 < p.zs.length) = true := decide_eq_true (by omega)
          have HQ := hide (show bs (lineS p.d) = L1 ++ (⟨#[32]⟩ : ByteArray) ++ bs (hexL p.zs) from by
            rw [HLN.out, if_neg (show ¬ p.d.zs.length = 0 from h0), ← bs_app, sp_bs, ← HL1.out, cat]
            rfl)
          have HHX := hide (hexTextS_any p.A p.zs p.c w6 ((HRS.out.1.below HB.out).more HB.out.size) HIZ.out (by omega))
          have hhl := bs_size (hexL p.zs)
          rw [hexL_len] at hhl
          have hlz : L1.size ≤ 1000000 := HLZ.out
          clear h0
          simp only [hd]
          generalize bs (hexL p.zs) = HXT at *
          have hq1 : ¬ 9223372036854775807 < L1.size + 1 := by omega
          have hq2 : ¬ 9223372036854775807 < L1.size + 1 + HXT.size := by omega
          go_wp2_with fail
          refine HHX.out.mono ?_
          rintro e w7 ⟨rfl, b6⟩
          have HB6 := hide b6
          clear b6 s3 hsl
          go_wp2_with fail
          go_meet
          exact ⟨by rw [HQ.out], HB6.out⟩
      case rest =>
        rename World => w8
        obtain ⟨rfl, hbc⟩ := hcut
        replace HB := hide (HB.out.trans (hbc.mono HB.out.size))
        replace HX := hide (HX.out.call hbc)
        replace HW := hide (HW.out.call hbc)
        replace HS := hide (HS.out.call hbc)
        clear hbc
        clear s3 hsl HLZ HLN HL1
        have hls : ls.length ≤ 56 := by omega
        have B6 : Below w8.heap.size w8 (w8.alloc (.cells #[.string (bs (lineS p.d))] 9)) := (by repeat (first | exact Below.refl _ _ | with_reducible assumption | (refine Below.drew ?_) | (refine Below.drewN ?_ _) | (refine Below.alloc ?_ (by simp; try omega) _) | (refine Below.setCell ?_ (by simp; try omega) _)))
        replace HB := hide (HB.out.trans (B6.mono HB.out.size))
        replace HX := hide (HX.out.call B6)
        replace HW := hide (HW.out.call B6)
        replace HS := hide (HS.out.call B6)
        clear B6
        go_wp2_with (at_builtin; refine wpList_app (w8.alloc (.cells #[.string (bs (lineS p.d))] 9)) rfl (.tmp 56) (.tmp 58) 28 rfl 9 i0 (.string ByteArray.empty) 1 16 Tryz.underlying28 HI.out.1 HI.out.2.1 HI.out.2.2.1 HI.out.2.2.2 rfl (by decide) w.heap.size A1 ls.length c1 (nmC (ls.map bs)) rfl HW.out HB.out.size (some ⟨w8.heap.size, 0, none⟩) 1 1 [.string (bs (lineS p.d))] rfl (rd_lit w8 #[.string (bs (lineS p.d))] 9 _ rfl) rfl (fun h => by cases h) (CDumpI.one_str _) ?n1 ?n2 ?_)
        case n1 => unfold maxLen; omega
        case n2 => omega
        intro A7 n7 c7 w7 hn7 o7 g7 k7
        subst hn7
        have HX7 := hide (HX.out.grown g7 (HW.out.box HX.out (by decide)))
        have HS7 := hide (HS.out.grown g7 (HW.out.box HS.out (by decide)))
        have HB7 := hide (HB.out.grown g7 HB.out.size (fun j hj => (HW.out.lt j hj).1))
        have HW7 := hide (show Row w7 w.heap.size 9 1 A7 (ls.length + 1) c7 (nmC ((ls ++ [lineS p.d]).map bs)) from by
          rw [nmC_snoc]
          exact o7)
        clear o7 g7 k7 HW HX HS HB
        go_wp2_with fail
        go_loopw [3, 7] (fun s i wi => ∃ (j : Nat) (A2 : Option Addr) (c2 : Nat) (ms : List (List UInt8)), j ≤ p.fs.length ∧ s = .slice A2 ms.length c2 ∧ i = .int .i64 j ∧ ms = (ls ++ [lineS p.d]) ++ (p.fs.take j).map lineF ∧ ms.length = ls.length + 1 + j ∧ Row wi w.heap.size 9 1 A2 ms.length c2 (nmC (ms.map bs)) ∧ Box wi w.heap.size 26 #[.slice (some ⟨b, off, none⟩) o.ps.length o.c, .slice o.Y o.ys.length o.yc] ∧ Box wi S 61 #[.string p.nm, .int .i64 p.kd, .int .i64 p.al, .slice p.A p.zs.length p.c, .int .i64 p.sz, .slice p.F p.fs.length p.fc] ∧ Below w.heap.size w wi) (fun _ i _ => p.fs.length - (intOf i).toNat)
        case atStart => exact ⟨0, A7, c7, ls ++ [lineS p.d], Nat.zero_le _, by simp, rfl, by simp, by simp, by simpa using HW7.out, by rw [← HA.out]; exact HX7.out, HS7.out, HB7.out⟩
        case round =>
          rename World => wi
          clear HW7 HX7 HB7 HS7
          obtain ⟨j, A2, c2, ms, hj, rfl, rfl, hms, hml, hrow, hbox, hbx, hb⟩ := hrel
          have HMS := hide hms
          have HML := hide hml
          have hml2 : ms.length ≤ 63 := by omega
          have HW := hide hrow
          have HX := hide hbox
          have HS := hide hbx
          have HB := hide hb
          clear hms hrow hbox hb hml hbx
          have s5 := HS.out.cell 5
          simp only [List.getElem?_toArray, List.getElem?_cons_zero, List.getElem?_cons_succ] at s5
          have hsl := HS.out.lt
          by_cases hltj : j < p.fs.length
          · obtain ⟨fb, fo, hFA, hfb, hfc⟩ := (HRS.out.2.below HB.out).row fixupC_len (by decide) hltj
            have f0 := hfc 0 _ rfl
            have f1 := hfc 1 _ rfl
            have f2 := hfc 2 _ rfl
            have f3 := hfc 3 _ rfl
            simp only [Nat.add_zero] at f0
            have HFS := hide (show (p.fs.take (j + 1)).map lineF = (p.fs.take j).map lineF ++ [lineF p.fs[j]] from by rw [take_succ hltj, List.map_append]; rfl)
            have HGF := hide (HGS.out.2 p.fs[j] (List.getElem_mem hltj))
            rw [hFA] at s5
            clear hfc hFA
            generalize p.fs[j] = f at *
            obtain ⟨f1', f2', f3', f4'⟩ := f
            simp only at f0 f1 f2 f3
            have BF : Below wi.heap.size wi (wi.alloc (.cells #[.int .i64 f1', .int .i64 f2', .int .i64 f3', .int .i64 f4'] 65)) := (by repeat (first | exact Below.refl _ _ | with_reducible assumption | (refine Below.drew ?_) | (refine Below.drewN ?_ _) | (refine Below.alloc ?_ (by simp; try omega) _) | (refine Below.setCell ?_ (by simp; try omega) _)))
            have HF := hide (Box.new wi 65 #[.int .i64 f1', .int .i64 f2', .int .i64 f3', .int .i64 f4'])
            replace HB := hide (HB.out.trans (BF.mono HB.out.size))
            replace HX := hide (HX.out.call BF)
            replace HW := hide (HW.out.call BF)
            replace HS := hide (HS.out.call BF)
            clear BF
            go_wp2_with fail
            clear f0 f1 f2 f3 s5 hsl
            generalize wi.alloc (.cells #[.int .i64 f1', .int .i64 f2', .int .i64 f3', .int .i64 f4'] 65) = wa at *
            generalize wi.heap.size = S2 at *
            obtain ⟨N1, hN1, q1, C1⟩ := num_of f1' HGF.out.1
            obtain ⟨N2, hN2, q2, C2⟩ := num_of f2' HGF.out.2.1
            obtain ⟨N3, hN3, q3, C3⟩ := num_of f3' HGF.out.2.2.1
            obtain ⟨N4, hN4, q4, C4⟩ := num_of f4' HGF.out.2.2.2
            have HTX := hide (fixText hN1 hN2 hN3 hN4)
            have HC1 := hide C1
            have HC2 := hide C2
            have HC3 := hide C3
            have HC4 := hide C4
            clear hN1 hN2 hN3 hN4 C1 C2 C3 C4
            have g1 : ¬ 9223372036854775807 < 6 + N1.size := by omega
            have g2 : ¬ 9223372036854775807 < 6 + N1.size + 1 := by omega
            have g3 : ¬ 9223372036854775807 < 6 + N1.size + 1 + N2.size := by omega
            have g4 : ¬ 9223372036854775807 < 6 + N1.size + 1 + N2.size + 1 := by omega
            have g5 : ¬ 9223372036854775807 < 6 + N1.size + 1 + N2.size + 1 + N3.size := by omega
            have g6 : ¬ 9223372036854775807 < 6 + N1.size + 1 + N2.size + 1 + N3.size + 1 := by omega
            have g7 : ¬ 9223372036854775807 < 6 + N1.size + 1 + N2.size + 1 + N3.size + 1 + N4.size := by omega
            have hsl := HF.out.lt
            refine Reg.startT (fun W => W.cell? ⟨S2, 0, none⟩ = some (.int .i64 f1') ∧ W.cell? ⟨S2, 1, none⟩ = some (.int .i64 f2') ∧ W.cell? ⟨S2, 2, none⟩ = some (.int .i64 f3') ∧ W.cell? ⟨S2, 3, none⟩ = some (.int .i64 f4')) (fun _ => false) (by kernel_rfl) ?_
            have hHeld : wa.drew.cell? ⟨S2, 0, none⟩ = some (.int .i64 f1') ∧ wa.drew.cell? ⟨S2, 1, none⟩ = some (.int .i64 f2') ∧ wa.drew.cell? ⟨S2, 2, none⟩ = some (.int .i64 f3') ∧ wa.drew.cell? ⟨S2, 3, none⟩ = some (.int .i64 f4') := ⟨HF.out.cell 0, HF.out.cell 1, HF.out.cell 2, HF.out.cell 3⟩
            refine Reg.takeT (i := 0) (v := ?_) rfl (by kernel_rfl) (by kernel_rfl) (by kernel_rfl) (by kernel_rfl) (fun _ _ _ h => h) (Or.inl ⟨by rfl, ?_⟩) (by assumption) ?_
            rotate_left 1
            focus (intro w hSw; (try dsimp only at hSw); go_simp; (try with_reducible rfl))
            try simp only [List.getElem_toArray, List.getElem_cons_succ, List.getElem_cons_zero, Act.put, List.setIfInBounds_toArray, List.set_cons_zero, List.set_cons_succ]
            refine Reg.takeT (i := 1) (v := ?_) rfl (by kernel_rfl) (by kernel_rfl) (by kernel_rfl) (by kernel_rfl) (fun _ _ _ h => h) (Or.inl ⟨by rfl, ?_⟩) (by assumption) ?_
            rotate_left 1
            focus (intro w hSw; (try dsimp only at hSw); go_simp; (try with_reducible rfl))
            try simp only [List.getElem_toArray, List.getElem_cons_succ, List.getElem_cons_zero, Act.put, List.setIfInBounds_toArray, List.set_cons_zero, List.set_cons_succ]
            refine Reg.takeT (i := 2) (v := ?_) rfl (by kernel_rfl) (by kernel_rfl) (by kernel_rfl) (by kernel_rfl) (fun _ _ _ h => h) (Or.inl ⟨by rfl, ?_⟩) (by assumption) ?_
            rotate_left 1
            focus (intro w hSw; (try dsimp only at hSw); go_simp; (try with_reducible rfl))
            try simp only [List.getElem_toArray, List.getElem_cons_succ, List.getElem_cons_zero, Act.put, List.setIfInBounds_toArray, List.set_cons_zero, List.set_cons_succ]
            refine Reg.takeT (i := 6) (v := ?_) rfl (by kernel_rfl) (by kernel_rfl) (by kernel_rfl) (by kernel_rfl) (fun _ _ _ h => h) (Or.inl ⟨by rfl, ?_⟩) (by assumption) ?_
            rotate_left 1
            focus (intro w hSw; (try dsimp only at hSw); go_simp; (try with_reducible rfl))
            try simp only [List.getElem_toArray, List.getElem_cons_succ, List.getElem_cons_zero, Act.put, List.setIfInBounds_toArray, List.set_cons_zero, List.set_cons_succ]
            refine Reg.takeT (i := 7) (v := ?_) rfl (by kernel_rfl) (by kernel_rfl) (by kernel_rfl) (by kernel_rfl) (fun _ _ _ h => h) (Or.inl ⟨by rfl, ?_⟩) (by assumption) ?_
            rotate_left 1
            focus (intro w hSw; (try dsimp only at hSw); go_simp; (try with_reducible rfl))
            try simp only [List.getElem_toArray, List.getElem_cons_succ, List.getElem_cons_zero, Act.put, List.setIfInBounds_toArray, List.set_cons_zero, List.set_cons_succ]
            refine Reg.takeT (i := 11) (v := ?_) rfl (by kernel_rfl) (by kernel_rfl) (by kernel_rfl) (by kernel_rfl) (fun _ _ _ h => h) (Or.inl ⟨by rfl, ?_⟩) (by assumption) ?_
            rotate_left 1
            focus (intro w hSw; (try dsimp only at hSw); go_simp; (try with_reducible rfl))
            try simp only [List.getElem_toArray, List.getElem_cons_succ, List.getElem_cons_zero, Act.put, List.setIfInBounds_toArray, List.set_cons_zero, List.set_cons_succ]
            refine Reg.takeT (i := 12) (v := ?_) rfl (by kernel_rfl) (by kernel_rfl) (by kernel_rfl) (by kernel_rfl) (fun _ _ _ h => h) (Or.inl ⟨by rfl, ?_⟩) (by assumption) ?_
            rotate_left 1
            focus (intro w hSw; (try dsimp only at hSw); go_simp; (try with_reducible rfl))
            try simp only [List.getElem_toArray, List.getElem_cons_succ, List.getElem_cons_zero, Act.put, List.setIfInBounds_toArray, List.set_cons_zero, List.set_cons_succ]
            refine Reg.takeT (i := 16) (v := ?_) rfl (by kernel_rfl) (by kernel_rfl) (by kernel_rfl) (by kernel_rfl) (fun _ _ _ h => h) (Or.inl ⟨by rfl, ?_⟩) (by assumption) ?_
            rotate_left 1
            focus (intro w hSw; (try dsimp only at hSw); go_simp; (try with_reducible rfl))
            try simp only [List.getElem_toArray, List.getElem_cons_succ, List.getElem_cons_zero, Act.put, List.setIfInBounds_toArray, List.set_cons_zero, List.set_cons_succ]
            refine Reg.takeT (i := 17) (v := ?_) rfl (by kernel_rfl) (by kernel_rfl) (by kernel_rfl) (by kernel_rfl) (fun _ _ _ h => h) (Or.inl ⟨by rfl, ?_⟩) (by assumption) ?_
            rotate_left 1
            focus (intro w hSw; (try dsimp only at hSw); go_simp; (try with_reducible rfl))
            try simp only [List.getElem_toArray, List.getElem_cons_succ, List.getElem_cons_zero, Act.put, List.setIfInBounds_toArray, List.set_cons_zero, List.set_cons_succ]
            refine Reg.oneT (i := 3) rfl (by kernel_rfl) (fun K hK => ?_)
            go_simp
            refine (HC1.out _).mono ?_
            rintro e v1 ⟨rfl, bb⟩
            have b3 := of_drew bb
            clear bb
            replace HB := hide (HB.out.trans (b3.mono HB.out.size))
            replace HX := hide (HX.out.call b3)
            replace HW := hide (HW.out.call b3)
            replace HS := hide (HS.out.call b3)
            replace HF := hide (HF.out.call b3)
            clear b3
            have hHeld : v1.cell? ⟨S2, 0, none⟩ = some (.int .i64 f1') ∧ v1.cell? ⟨S2, 1, none⟩ = some (.int .i64 f2') ∧ v1.cell? ⟨S2, 2, none⟩ = some (.int .i64 f3') ∧ v1.cell? ⟨S2, 3, none⟩ = some (.int .i64 f4') := ⟨HF.out.cell 0, HF.out.cell 1, HF.out.cell 2, HF.out.cell 3⟩
            refine hK.out _ _ hHeld ?_
            clear hK K
            try simp only [List.getElem_toArray, List.getElem_cons_succ, List.getElem_cons_zero, Act.put, List.setIfInBounds_toArray, List.set_cons_zero, List.set_cons_succ]
            refine Reg.takeT (i := 4) (v := ?_) rfl (by kernel_rfl) (by kernel_rfl) (by kernel_rfl) (by kernel_rfl) (fun _ _ _ h => h) (Or.inl ⟨by rfl, ?_⟩) (by assumption) ?_
            rotate_left 1
            focus (intro w hSw; (try dsimp only at hSw); go_simp; (try with_reducible rfl))
            try simp only [List.getElem_toArray, List.getElem_cons_succ, List.getElem_cons_zero, Act.put, List.setIfInBounds_toArray, List.set_cons_zero, List.set_cons_succ]
            refine Reg.takeT (i := 5) (v := ?_) rfl (by kernel_rfl) (by kernel_rfl) (by kernel_rfl) (by kernel_rfl) (fun _ _ _ h => h) (Or.inl ⟨by rfl, ?_⟩) (by assumption) ?_
            rotate_left 1
            focus (intro w hSw; (try dsimp only at hSw); go_simp; (try with_reducible rfl))
            try simp only [List.getElem_toArray, List.getElem_cons_succ, List.getElem_cons_zero, Act.put, List.setIfInBounds_toArray, List.set_cons_zero, List.set_cons_succ]
            refine Reg.oneT (i := 8) rfl (by kernel_rfl) (fun K hK => ?_)
            go_simp
            refine (HC2.out _).mono ?_
            rintro e v2 ⟨rfl, bb⟩
            replace HB := hide (HB.out.trans (bb.mono HB.out.size))
            replace HX := hide (HX.out.call bb)
            replace HW := hide (HW.out.call bb)
            replace HS := hide (HS.out.call bb)
            replace HF := hide (HF.out.call bb)
            clear bb
            have hHeld : v2.cell? ⟨S2, 0, none⟩ = some (.int .i64 f1') ∧ v2.cell? ⟨S2, 1, none⟩ = some (.int .i64 f2') ∧ v2.cell? ⟨S2, 2, none⟩ = some (.int .i64 f3') ∧ v2.cell? ⟨S2, 3, none⟩ = some (.int .i64 f4') := ⟨HF.out.cell 0, HF.out.cell 1, HF.out.cell 2, HF.out.cell 3⟩
            refine hK.out _ _ hHeld ?_
            clear hK K
            try simp only [List.getElem_toArray, List.getElem_cons_succ, List.getElem_cons_zero, Act.put, List.setIfInBounds_toArray, List.set_cons_zero, List.set_cons_succ]
            refine Reg.takeT (i := 9) (v := ?_) rfl (by kernel_rfl) (by kernel_rfl) (by kernel_rfl) (by kernel_rfl) (fun _ _ _ h => h) (Or.inl ⟨by rfl, ?_⟩) (by assumption) ?_
            rotate_left 1
            focus (intro w hSw; (try dsimp only at hSw); go_simp; (try with_reducible rfl))
            try simp only [List.getElem_toArray, List.getElem_cons_succ, List.getElem_cons_zero, Act.put, List.setIfInBounds_toArray, List.set_cons_zero, List.set_cons_succ]
            refine Reg.takeT (i := 10) (v := ?_) rfl (by kernel_rfl) (by kernel_rfl) (by kernel_rfl) (by kernel_rfl) (fun _ _ _ h => h) (Or.inl ⟨by rfl, ?_⟩) (by assumption) ?_
            rotate_left 1
            focus (intro w hSw; (try dsimp only at hSw); go_simp; (try with_reducible rfl))
            try simp only [List.getElem_toArray, List.getElem_cons_succ, List.getElem_cons_zero, Act.put, List.setIfInBounds_toArray, List.set_cons_zero, List.set_cons_succ]
            refine Reg.oneT (i := 13) rfl (by kernel_rfl) (fun K hK => ?_)
            go_simp
            refine (HC3.out _).mono ?_
            rintro e v3 ⟨rfl, bb⟩
            replace HB := hide (HB.out.trans (bb.mono HB.out.size))
            replace HX := hide (HX.out.call bb)
            replace HW := hide (HW.out.call bb)
            replace HS := hide (HS.out.call bb)
            replace HF := hide (HF.out.call bb)
            clear bb
            have hHeld : v3.cell? ⟨S2, 0, none⟩ = some (.int .i64 f1') ∧ v3.cell? ⟨S2, 1, none⟩ = some (.int .i64 f2') ∧ v3.cell? ⟨S2, 2, none⟩ = some (.int .i64 f3') ∧ v3.cell? ⟨S2, 3, none⟩ = some (.int .i64 f4') := ⟨HF.out.cell 0, HF.out.cell 1, HF.out.cell 2, HF.out.cell 3⟩
            refine hK.out _ _ hHeld ?_
            clear hK K
            try simp only [List.getElem_toArray, List.getElem_cons_succ, List.getElem_cons_zero, Act.put, List.setIfInBounds_toArray, List.set_cons_zero, List.set_cons_succ]
            refine Reg.takeT (i := 14) (v := ?_) rfl (by kernel_rfl) (by kernel_rfl) (by kernel_rfl) (by kernel_rfl) (fun _ _ _ h => h) (Or.inl ⟨by rfl, ?_⟩) (by assumption) ?_
            rotate_left 1
            focus (intro w hSw; (try dsimp only at hSw); go_simp; (try with_reducible rfl))
            try simp only [List.getElem_toArray, List.getElem_cons_succ, List.getElem_cons_zero, Act.put, List.setIfInBounds_toArray, List.set_cons_zero, List.set_cons_succ]
            refine Reg.takeT (i := 15) (v := ?_) rfl (by kernel_rfl) (by kernel_rfl) (by kernel_rfl) (by kernel_rfl) (fun _ _ _ h => h) (Or.inl ⟨by rfl, ?_⟩) (by assumption) ?_
            rotate_left 1
            focus (intro w hSw; (try dsimp only at hSw); go_simp; (try with_reducible rfl))
            try simp only [List.getElem_toArray, List.getElem_cons_succ, List.getElem_cons_zero, Act.put, List.setIfInBounds_toArray, List.set_cons_zero, List.set_cons_succ]
            refine Reg.oneT (i := 18) rfl (by kernel_rfl) (fun K hK => ?_)
            go_simp
            refine (HC4.out _).mono ?_
            rintro e v4 ⟨rfl, bb⟩
            replace HB := hide (HB.out.trans (bb.mono HB.out.size))
            replace HX := hide (HX.out.call bb)
            replace HW := hide (HW.out.call bb)
            replace HS := hide (HS.out.call bb)
            replace HF := hide (HF.out.call bb)
            clear bb
            have hHeld : v4.cell? ⟨S2, 0, none⟩ = some (.int .i64 f1') ∧ v4.cell? ⟨S2, 1, none⟩ = some (.int .i64 f2') ∧ v4.cell? ⟨S2, 2, none⟩ = some (.int .i64 f3') ∧ v4.cell? ⟨S2, 3, none⟩ = some (.int .i64 f4') := ⟨HF.out.cell 0, HF.out.cell 1, HF.out.cell 2, HF.out.cell 3⟩
            refine hK.out _ _ hHeld ?_
            clear hK K
            try simp only [List.getElem_toArray, List.getElem_cons_succ, List.getElem_cons_zero, Act.put, List.setIfInBounds_toArray, List.set_cons_zero, List.set_cons_succ]
            refine Reg.takeT (i := 19) (v := ?_) rfl (by kernel_rfl) (by kernel_rfl) (by kernel_rfl) (by kernel_rfl) (fun _ _ _ h => h) (Or.inl ⟨by rfl, ?_⟩) (by assumption) ?_
            rotate_left 1
            focus (intro w hSw; (try dsimp only at hSw); go_simp; (try with_reducible rfl))
            try simp only [List.getElem_toArray, List.getElem_cons_succ, List.getElem_cons_zero, Act.put, List.setIfInBounds_toArray, List.set_cons_zero, List.set_cons_succ]
            rw [← HTX.out]
            refine Reg.oneT (i := 20) rfl (by kernel_rfl) (fun K hK => ?_)
            go_simp
            have BA : Below v4.heap.size v4 (v4.alloc (.cells #[.string (bs (lineF (f1', f2', f3', f4')))] 9)) := (by repeat (first | exact Below.refl _ _ | with_reducible assumption | (refine Below.drew ?_) | (refine Below.drewN ?_ _) | (refine Below.alloc ?_ (by simp; try omega) _) | (refine Below.setCell ?_ (by simp; try omega) _)))
            have HLT := hide (rd_lit v4 #[.string (bs (lineF (f1', f2', f3', f4')))] 9 _ rfl)
            replace HB := hide (HB.out.trans (BA.mono HB.out.size))
            replace HX := hide (HX.out.call BA)
            replace HW := hide (HW.out.call BA)
            replace HS := hide (HS.out.call BA)
            replace HF := hide (HF.out.call BA)
            clear BA
            generalize v4.alloc (.cells #[.string (bs (lineF (f1', f2', f3', f4')))] 9) = v5 at *
            have hHeld : v5.cell? ⟨S2, 0, none⟩ = some (.int .i64 f1') ∧ v5.cell? ⟨S2, 1, none⟩ = some (.int .i64 f2') ∧ v5.cell? ⟨S2, 2, none⟩ = some (.int .i64 f3') ∧ v5.cell? ⟨S2, 3, none⟩ = some (.int .i64 f4') := ⟨HF.out.cell 0, HF.out.cell 1, HF.out.cell 2, HF.out.cell 3⟩
            refine hK.out _ _ hHeld ?_
            clear hK K
            try simp only [List.getElem_toArray, List.getElem_cons_succ, List.getElem_cons_zero, Act.put, List.setIfInBounds_toArray, List.set_cons_zero, List.set_cons_succ]
            refine Reg.oneT (i := 21) rfl (by kernel_rfl) (fun K hK => ?_)
            refine step_app (by rfl) _ _ 28 (by rfl) 9 i0 (.string ByteArray.empty) 1 16 Tryz.underlying28 HI.out.1 HI.out.2.1 HI.out.2.2.1 HI.out.2.2.2 rfl (by decide) w.heap.size A2 ms.length c2 (nmC (ms.map bs)) (by rfl) HW.out HB.out.size _ 1 1 [.string (bs (lineF (f1', f2', f3', f4')))] (by rfl) HLT.out rfl (fun h => by cases h) (CDumpI.one_str _) ?n1 ?n2 ?_
            case n1 => unfold maxLen; omega
            case n2 => omega
            intro A9 n9 c9 wz hn9 o9 g9 k9
            subst hn9
            have HX9 := hide (HX.out.grown g9 (HW.out.box HX.out (by decide)))
            have HF9 := hide (HF.out.grown g9 (HW.out.box HF.out (by decide)))
            have HS9 := hide (HS.out.grown g9 (HW.out.box HS.out (by decide)))
            have HB9 := hide (HB.out.grown g9 HB.out.size (fun j hj => (HW.out.lt j hj).1))
            have HW9 := hide (show Row wz w.heap.size 9 1 A9 (ms ++ [lineF (f1', f2', f3', f4')]).length c9 (nmC ((ms ++ [lineF (f1', f2', f3', f4')]).map bs)) from by
              rw [List.length_append, nmC_snoc]
              exact o9)
            have hq := HML.out
            have HLN9 := hide (show (ms ++ [lineF (f1', f2', f3', f4')]).length = ls.length + 1 + (j + 1) from by rw [List.length_append, hq]; rfl)
            have HMN9 := hide (show ms ++ [lineF (f1', f2', f3', f4')] = (ls ++ [lineS p.d]) ++ (p.fs.take (j + 1)).map lineF from by rw [HFS.out, HMS.out, List.append_assoc])
            refine hK.out _ _ ⟨HF9.out.cell 0, HF9.out.cell 1, HF9.out.cell 2, HF9.out.cell 3⟩ ?_
            have hHeld : wz.cell? ⟨S2, 0, none⟩ = some (.int .i64 f1') ∧ wz.cell? ⟨S2, 1, none⟩ = some (.int .i64 f2') ∧ wz.cell? ⟨S2, 2, none⟩ = some (.int .i64 f3') ∧ wz.cell? ⟨S2, 3, none⟩ = some (.int .i64 f4') := ⟨HF9.out.cell 0, HF9.out.cell 1, HF9.out.cell 2, HF9.out.cell 3⟩
            clear hK K o9 g9 k9 HW HX HB HF hq HS
            try simp only [List.getElem_toArray, List.getElem_cons_succ, List.getElem_cons_zero, Act.put, List.setIfInBounds_toArray, List.set_cons_zero, List.set_cons_succ]
            refine Reg.takeT (i := 22) (v := ?_) rfl (by kernel_rfl) (by kernel_rfl) (by kernel_rfl) (by kernel_rfl) (fun _ _ _ h => h) (Or.inl ⟨by rfl, ?_⟩) (by assumption) ?_
            rotate_left 1
            focus (intro w hSw; (try dsimp only at hSw); go_simp; (try with_reducible rfl))
            try simp only [List.getElem_toArray, List.getElem_cons_succ, List.getElem_cons_zero, Act.put, List.setIfInBounds_toArray, List.set_cons_zero, List.set_cons_succ]
            refine Reg.doneT (by kernel_rfl) ?_ _
            clear hHeld g1 g2 g3 g4 g5 g6 g7 hsl q1 q2 q3 q4
            go_wp2_with fail
            refine ⟨⟨j + 1, A9, c9, _, by omega, by simp, by go_num, HMN9.out, HLN9.out, HW9.out, HX9.out, HS9.out, HB9.out⟩, by simp [intOf]; omega⟩
          · have hje : j = p.fs.length := by omega
            have HLK := hide (show ms = linesSs ((o.ps.take (k + 1)).map SV.d) from by
              rw [HSN.out, HMS.out, hje, List.take_length, HLS.out]
              simp [linesS, SV.d])
            have hmk : ms.length ≤ 7 * (k + 1) := by have := HML.out; omega
            have HMK := hide hmk
            clear hmk hje
            go_wp2_with fail
            refine ⟨⟨k + 1, A2, c2, ms, by omega, rfl, by go_num, HLK.out, HMK.out, HW.out, by rw [HA.out]; exact HX.out, HB.out⟩, by simp [intOf]; omega⟩
    · have hke : k = o.ps.length := by omega
      have HL0 := hide (show ls = linesSs (o.ps.map SV.d) from by rw [HLS.out, hke, List.take_length])
      have hl56 : ls.length ≤ 56 := by omega
      clear hke
      go_wp2_with fail
      clear x0 x1 hxl
      go_loopw [3, 9] (fun s i wi => ∃ (j : Nat) (A2 : Option Addr) (c2 : Nat) (ms : List (List UInt8)), j ≤ o.ys.length ∧ s = .slice A2 ms.length c2 ∧ i = .int .i64 j ∧ ms = ls ++ (o.ys.take j).map lineY ∧ ms.length = ls.length + j ∧ Row wi w.heap.size 9 1 A2 ms.length c2 (nmC (ms.map bs)) ∧ Box wi w.heap.size 26 #[.slice o.A o.ps.length o.c, .slice o.Y o.ys.length o.yc] ∧ Below w.heap.size w wi) (fun _ i _ => o.ys.length - (intOf i).toNat)
      case atStart => exact ⟨0, A1, c1, ls, Nat.zero_le _, rfl, rfl, by simp, by simp, HW.out, HX.out, HB.out⟩
      case round =>
        rename World => wi
        clear HW HX HB
        obtain ⟨j, A2, c2, ms, hj, rfl, rfl, hms, hml, hrow, hbox, hb⟩ := hrel
        have HMS := hide hms
        have HML := hide hml
        have hml2 : ms.length ≤ 68 := by omega
        have HW := hide hrow
        have HX := hide hbox
        have HB := hide hb
        clear hms hrow hb hml hbox
        have x0 := HX.out.cell 0
        have x1 := HX.out.cell 1
        simp only [List.getElem?_toArray, List.getElem?_cons_zero, List.getElem?_cons_succ] at x0 x1
        have hxl := HX.out.lt
        by_cases hltj : j < o.ys.length
        · go_wp2_with fail
          refine (HV0.out wi HB.out).mono ?_
          rintro e wj ⟨rfl, b1⟩
          clear x0 x1 hxl
          replace HB := hide (HB.out.trans (b1.mono HB.out.size))
          replace HX := hide (HX.out.call b1)
          replace HW := hide (HW.out.call b1)
          clear b1
          have x0 := HX.out.cell 0
          have x1 := HX.out.cell 1
          simp only [List.getElem?_toArray, List.getElem?_cons_zero, List.getElem?_cons_succ] at x0 x1
          have hxl := HX.out.lt
          obtain ⟨fb, fo, hFA, hfb, hfc⟩ := (HR.out.2.below HB.out).row symbolC_len (by decide) hltj
          have f0 := hfc 0 _ rfl
          have f1 := hfc 1 _ rfl
          have f2 := hfc 2 _ rfl
          have f3 := hfc 3 _ rfl
          simp only [Nat.add_zero] at f0
          have HFS := hide (show (o.ys.take (j + 1)).map lineY = (o.ys.take j).map lineY ++ [lineY o.ys[j]] from by rw [take_succ hltj, List.map_append]; rfl)
          have HGF := hide (HG.out.2 o.ys[j] (List.getElem_mem hltj))
          have HFA := hide hFA
          rw [hFA] at x1
          clear hfc hFA
          generalize o.ys[j] = f at *
          obtain ⟨y1, y2, y3, y4⟩ := f
          simp only at f0 f1 f2 f3
          have BF : Below wj.heap.size wj (wj.alloc (.cells #[.string y1, .int .i64 y2, .int .i64 y3, .int .i64 y4] 67)) := (by repeat (first | exact Below.refl _ _ | with_reducible assumption | (refine Below.drew ?_) | (refine Below.drewN ?_ _) | (refine Below.alloc ?_ (by simp; try omega) _) | (refine Below.setCell ?_ (by simp; try omega) _)))
          have HF := hide (Box.new wj 67 #[.string y1, .int .i64 y2, .int .i64 y3, .int .i64 y4])
          replace HB := hide (HB.out.trans (BF.mono HB.out.size))
          replace HX := hide (HX.out.call BF)
          replace HW := hide (HW.out.call BF)
          clear BF
          go_wp2_with fail
          clear f0 f1 f2 f3 x0 x1 hxl
          generalize wj.alloc (.cells #[.string y1, .int .i64 y2, .int .i64 y3, .int .i64 y4] 67) = wa at *
          generalize wj.heap.size = S2 at *
          have hN8 : y1.size ≤ 8 := (nmW_ok HGF.out.1).2
          obtain ⟨N1, hN1, q1, C1⟩ := num_of y2 HGF.out.2.1
          obtain ⟨N2, hN2, q2, C2⟩ := num_of y3 HGF.out.2.2.1
          obtain ⟨N3, hN3, q3, C3⟩ := num_of y4 HGF.out.2.2.2
          have HTX := hide ((congrArg bs (lineY_eq HGF.out.1)).trans (symText HGF.out.1 hN1 hN2 hN3))
          have HC1 := hide C1
          have HC2 := hide C2
          have HC3 := hide C3
          clear hN1 hN2 hN3 C1 C2 C3
          have g1 : ¬ 9223372036854775807 < 7 + y1.size := by omega
          have g2 : ¬ 9223372036854775807 < 7 + y1.size + 1 := by omega
          have g3 : ¬ 9223372036854775807 < 7 + y1.size + 1 + N1.size := by omega
          have g4 : ¬ 9223372036854775807 < 7 + y1.size + 1 + N1.size + 1 := by omega
          have g5 : ¬ 9223372036854775807 < 7 + y1.size + 1 + N1.size + 1 + N2.size := by omega
          have g6 : ¬ 9223372036854775807 < 7 + y1.size + 1 + N1.size + 1 + N2.size + 1 := by omega
          have g7 : ¬ 9223372036854775807 < 7 + y1.size + 1 + N1.size + 1 + N2.size + 1 + N3.size := by omega
          have hsl := HF.out.lt
          refine Reg.startT (fun W => W.cell? ⟨S2, 0, none⟩ = some (.string y1) ∧ W.cell? ⟨S2, 1, none⟩ = some (.int .i64 y2) ∧ W.cell? ⟨S2, 2, none⟩ = some (.int .i64 y3) ∧ W.cell? ⟨S2, 3, none⟩ = some (.int .i64 y4)) (fun _ => false) (by kernel_rfl) ?_
          have hHeld : wa.drew.cell? ⟨S2, 0, none⟩ = some (.string y1) ∧ wa.drew.cell? ⟨S2, 1, none⟩ = some (.int .i64 y2) ∧ wa.drew.cell? ⟨S2, 2, none⟩ = some (.int .i64 y3) ∧ wa.drew.cell? ⟨S2, 3, none⟩ = some (.int .i64 y4) := ⟨HF.out.cell 0, HF.out.cell 1, HF.out.cell 2, HF.out.cell 3⟩
          refine Reg.takeT (i := 0) (v := ?_) rfl (by kernel_rfl) (by kernel_rfl) (by kernel_rfl) (by kernel_rfl) (fun _ _ _ h => h) (Or.inl ⟨by rfl, ?_⟩) (by assumption) ?_
          rotate_left 1
          focus (intro w hSw; (try dsimp only at hSw); go_simp; (try with_reducible rfl))
          try simp only [List.getElem_toArray, List.getElem_cons_succ, List.getElem_cons_zero, Act.put, List.setIfInBounds_toArray, List.set_cons_zero, List.set_cons_succ]
          refine Reg.takeT (i := 1) (v := ?_) rfl (by kernel_rfl) (by kernel_rfl) (by kernel_rfl) (by kernel_rfl) (fun _ _ _ h => h) (Or.inl ⟨by rfl, ?_⟩) (by assumption) ?_
          rotate_left 1
          focus (intro w hSw; (try dsimp only at hSw); go_simp; (try with_reducible rfl))
          try simp only [List.getElem_toArray, List.getElem_cons_succ, List.getElem_cons_zero, Act.put, List.setIfInBounds_toArray, List.set_cons_zero, List.set_cons_succ]
          refine Reg.takeT (i := 2) (v := ?_) rfl (by kernel_rfl) (by kernel_rfl) (by kernel_rfl) (by kernel_rfl) (fun _ _ _ h => h) (Or.inl ⟨by rfl, ?_⟩) (by assumption) ?_
          rotate_left 1
          focus (intro w hSw; (try dsimp only at hSw); go_simp; (try with_reducible rfl))
          try simp only [List.getElem_toArray, List.getElem_cons_succ, List.getElem_cons_zero, Act.put, List.setIfInBounds_toArray, List.set_cons_zero, List.set_cons_succ]
          refine Reg.takeT (i := 3) (v := ?_) rfl (by kernel_rfl) (by kernel_rfl) (by kernel_rfl) (by kernel_rfl) (fun _ _ _ h => h) (Or.inl ⟨by rfl, ?_⟩) (by assumption) ?_
          rotate_left 1
          focus (intro w hSw; (try dsimp only at hSw); go_simp; (try with_reducible rfl))
          try simp only [List.getElem_toArray, List.getElem_cons_succ, List.getElem_cons_zero, Act.put, List.setIfInBounds_toArray, List.set_cons_zero, List.set_cons_succ]
          refine Reg.takeT (i := 4) (v := ?_) rfl (by kernel_rfl) (by kernel_rfl) (by kernel_rfl) (by kernel_rfl) (fun _ _ _ h => h) (Or.inl ⟨by rfl, ?_⟩) (by assumption) ?_
          rotate_left 1
          focus (intro w hSw; (try dsimp only at hSw); go_simp; (try with_reducible rfl))
          try simp only [List.getElem_toArray, List.getElem_cons_succ, List.getElem_cons_zero, Act.put, List.setIfInBounds_toArray, List.set_cons_zero, List.set_cons_succ]
          refine Reg.takeT (i := 5) (v := ?_) rfl (by kernel_rfl) (by kernel_rfl) (by kernel_rfl) (by kernel_rfl) (fun _ _ _ h => h) (Or.inl ⟨by rfl, ?_⟩) (by assumption) ?_
          rotate_left 1
          focus (intro w hSw; (try dsimp only at hSw); go_simp; (try with_reducible rfl))
          try simp only [List.getElem_toArray, List.getElem_cons_succ, List.getElem_cons_zero, Act.put, List.setIfInBounds_toArray, List.set_cons_zero, List.set_cons_succ]
          refine Reg.takeT (i := 6) (v := ?_) rfl (by kernel_rfl) (by kernel_rfl) (by kernel_rfl) (by kernel_rfl) (fun _ _ _ h => h) (Or.inl ⟨by rfl, ?_⟩) (by assumption) ?_
          rotate_left 1
          focus (intro w hSw; (try dsimp only at hSw); go_simp; (try with_reducible rfl))
          try simp only [List.getElem_toArray, List.getElem_cons_succ, List.getElem_cons_zero, Act.put, List.setIfInBounds_toArray, List.set_cons_zero, List.set_cons_succ]
          refine Reg.takeT (i := 10) (v := ?_) rfl (by kernel_rfl) (by kernel_rfl) (by kernel_rfl) (by kernel_rfl) (fun _ _ _ h => h) (Or.inl ⟨by rfl, ?_⟩) (by assumption) ?_
          rotate_left 1
          focus (intro w hSw; (try dsimp only at hSw); go_simp; (try with_reducible rfl))
          try simp only [List.getElem_toArray, List.getElem_cons_succ, List.getElem_cons_zero, Act.put, List.setIfInBounds_toArray, List.set_cons_zero, List.set_cons_succ]
          refine Reg.takeT (i := 11) (v := ?_) rfl (by kernel_rfl) (by kernel_rfl) (by kernel_rfl) (by kernel_rfl) (fun _ _ _ h => h) (Or.inl ⟨by rfl, ?_⟩) (by assumption) ?_
          rotate_left 1
          focus (intro w hSw; (try dsimp only at hSw); go_simp; (try with_reducible rfl))
          try simp only [List.getElem_toArray, List.getElem_cons_succ, List.getElem_cons_zero, Act.put, List.setIfInBounds_toArray, List.set_cons_zero, List.set_cons_succ]
          refine Reg.takeT (i := 15) (v := ?_) rfl (by kernel_rfl) (by kernel_rfl) (by kernel_rfl) (by kernel_rfl) (fun _ _ _ h => h) (Or.inl ⟨by rfl, ?_⟩) (by assumption) ?_
          rotate_left 1
          focus (intro w hSw; (try dsimp only at hSw); go_simp; (try with_reducible rfl))
          try simp only [List.getElem_toArray, List.getElem_cons_succ, List.getElem_cons_zero, Act.put, List.setIfInBounds_toArray, List.set_cons_zero, List.set_cons_succ]
          refine Reg.takeT (i := 16) (v := ?_) rfl (by kernel_rfl) (by kernel_rfl) (by kernel_rfl) (by kernel_rfl) (fun _ _ _ h => h) (Or.inl ⟨by rfl, ?_⟩) (by assumption) ?_
          rotate_left 1
          focus (intro w hSw; (try dsimp only at hSw); go_simp; (try with_reducible rfl))
          try simp only [List.getElem_toArray, List.getElem_cons_succ, List.getElem_cons_zero, Act.put, List.setIfInBounds_toArray, List.set_cons_zero, List.set_cons_succ]
          refine Reg.oneT (i := 7) rfl (by kernel_rfl) (fun K hK => ?_)
          go_simp
          refine (HC1.out _).mono ?_
          rintro e v1 ⟨rfl, bb⟩
          have b3 := of_drew bb
          clear bb
          replace HB := hide (HB.out.trans (b3.mono HB.out.size))
          replace HX := hide (HX.out.call b3)
          replace HW := hide (HW.out.call b3)
          replace HF := hide (HF.out.call b3)
          clear b3
          have hHeld : v1.cell? ⟨S2, 0, none⟩ = some (.string y1) ∧ v1.cell? ⟨S2, 1, none⟩ = some (.int .i64 y2) ∧ v1.cell? ⟨S2, 2, none⟩ = some (.int .i64 y3) ∧ v1.cell? ⟨S2, 3, none⟩ = some (.int .i64 y4) := ⟨HF.out.cell 0, HF.out.cell 1, HF.out.cell 2, HF.out.cell 3⟩
          refine hK.out _ _ hHeld ?_
          clear hK K
          try simp only [List.getElem_toArray, List.getElem_cons_succ, List.getElem_cons_zero, Act.put, List.setIfInBounds_toArray, List.set_cons_zero, List.set_cons_succ]
          refine Reg.takeT (i := 8) (v := ?_) rfl (by kernel_rfl) (by kernel_rfl) (by kernel_rfl) (by kernel_rfl) (fun _ _ _ h => h) (Or.inl ⟨by rfl, ?_⟩) (by assumption) ?_
          rotate_left 1
          focus (intro w hSw; (try dsimp only at hSw); go_simp; (try with_reducible rfl))
          try simp only [List.getElem_toArray, List.getElem_cons_succ, List.getElem_cons_zero, Act.put, List.setIfInBounds_toArray, List.set_cons_zero, List.set_cons_succ]
          refine Reg.takeT (i := 9) (v := ?_) rfl (by kernel_rfl) (by kernel_rfl) (by kernel_rfl) (by kernel_rfl) (fun _ _ _ h => h) (Or.inl ⟨by rfl, ?_⟩) (by assumption) ?_
          rotate_left 1
          focus (intro w hSw; (try dsimp only at hSw); go_simp; (try with_reducible rfl))
          try simp only [List.getElem_toArray, List.getElem_cons_succ, List.getElem_cons_zero, Act.put, List.setIfInBounds_toArray, List.set_cons_zero, List.set_cons_succ]
          refine Reg.oneT (i := 12) rfl (by kernel_rfl) (fun K hK => ?_)
          go_simp
          refine (HC2.out _).mono ?_
          rintro e v2 ⟨rfl, bb⟩
          replace HB := hide (HB.out.trans (bb.mono HB.out.size))
          replace HX := hide (HX.out.call bb)
          replace HW := hide (HW.out.call bb)
          replace HF := hide (HF.out.call bb)
          clear bb
          have hHeld : v2.cell? ⟨S2, 0, none⟩ = some (.string y1) ∧ v2.cell? ⟨S2, 1, none⟩ = some (.int .i64 y2) ∧ v2.cell? ⟨S2, 2, none⟩ = some (.int .i64 y3) ∧ v2.cell? ⟨S2, 3, none⟩ = some (.int .i64 y4) := ⟨HF.out.cell 0, HF.out.cell 1, HF.out.cell 2, HF.out.cell 3⟩
          refine hK.out _ _ hHeld ?_
          clear hK K
          try simp only [List.getElem_toArray, List.getElem_cons_succ, List.getElem_cons_zero, Act.put, List.setIfInBounds_toArray, List.set_cons_zero, List.set_cons_succ]
          refine Reg.takeT (i := 13) (v := ?_) rfl (by kernel_rfl) (by kernel_rfl) (by kernel_rfl) (by kernel_rfl) (fun _ _ _ h => h) (Or.inl ⟨by rfl, ?_⟩) (by assumption) ?_
          rotate_left 1
          focus (intro w hSw; (try dsimp only at hSw); go_simp; (try with_reducible rfl))
          try simp only [List.getElem_toArray, List.getElem_cons_succ, List.getElem_cons_zero, Act.put, List.setIfInBounds_toArray, List.set_cons_zero, List.set_cons_succ]
          refine Reg.takeT (i := 14) (v := ?_) rfl (by kernel_rfl) (by kernel_rfl) (by kernel_rfl) (by kernel_rfl) (fun _ _ _ h => h) (Or.inl ⟨by rfl, ?_⟩) (by assumption) ?_
          rotate_left 1
          focus (intro w hSw; (try dsimp only at hSw); go_simp; (try with_reducible rfl))
          try simp only [List.getElem_toArray, List.getElem_cons_succ, List.getElem_cons_zero, Act.put, List.setIfInBounds_toArray, List.set_cons_zero, List.set_cons_succ]
          refine Reg.oneT (i := 17) rfl (by kernel_rfl) (fun K hK => ?_)
          go_simp
          refine (HC3.out _).mono ?_
          rintro e v3 ⟨rfl, bb⟩
          replace HB := hide (HB.out.trans (bb.mono HB.out.size))
          replace HX := hide (HX.out.call bb)
          replace HW := hide (HW.out.call bb)
          replace HF := hide (HF.out.call bb)
          clear bb
          have hHeld : v3.cell? ⟨S2, 0, none⟩ = some (.string y1) ∧ v3.cell? ⟨S2, 1, none⟩ = some (.int .i64 y2) ∧ v3.cell? ⟨S2, 2, none⟩ = some (.int .i64 y3) ∧ v3.cell? ⟨S2, 3, none⟩ = some (.int .i64 y4) := ⟨HF.out.cell 0, HF.out.cell 1, HF.out.cell 2, HF.out.cell 3⟩
          refine hK.out _ _ hHeld ?_
          clear hK K
          try simp only [List.getElem_toArray, List.getElem_cons_succ, List.getElem_cons_zero, Act.put, List.setIfInBounds_toArray, List.set_cons_zero, List.set_cons_succ]
          refine Reg.takeT (i := 18) (v := ?_) rfl (by kernel_rfl) (by kernel_rfl) (by kernel_rfl) (by kernel_rfl) (fun _ _ _ h => h) (Or.inl ⟨by rfl, ?_⟩) (by assumption) ?_
          rotate_left 1
          focus (intro w hSw; (try dsimp only at hSw); go_simp; (try with_reducible rfl))
          try simp only [List.getElem_toArray, List.getElem_cons_succ, List.getElem_cons_zero, Act.put, List.setIfInBounds_toArray, List.set_cons_zero, List.set_cons_succ]
          rw [← HTX.out]
          refine Reg.oneT (i := 19) rfl (by kernel_rfl) (fun K hK => ?_)
          go_simp
          have BA : Below v3.heap.size v3 (v3.alloc (.cells #[.string (bs (lineY (y1, y2, y3, y4)))] 9)) := (by repeat (first | exact Below.refl _ _ | with_reducible assumption | (refine Below.drew ?_) | (refine Below.drewN ?_ _) | (refine Below.alloc ?_ (by simp; try omega) _) | (refine Below.setCell ?_ (by simp; try omega) _)))
          have HLT := hide (rd_lit v3 #[.string (bs (lineY (y1, y2, y3, y4)))] 9 _ rfl)
          replace HB := hide (HB.out.trans (BA.mono HB.out.size))
          replace HX := hide (HX.out.call BA)
          replace HW := hide (HW.out.call BA)
          replace HF := hide (HF.out.call BA)
          clear BA
          generalize v3.alloc (.cells #[.string (bs (lineY (y1, y2, y3, y4)))] 9) = v4 at *
          have hHeld : v4.cell? ⟨S2, 0, none⟩ = some (.string y1) ∧ v4.cell? ⟨S2, 1, none⟩ = some (.int .i64 y2) ∧ v4.cell? ⟨S2, 2, none⟩ = some (.int .i64 y3) ∧ v4.cell? ⟨S2, 3, none⟩ = some (.int .i64 y4) := ⟨HF.out.cell 0, HF.out.cell 1, HF.out.cell 2, HF.out.cell 3⟩
          refine hK.out _ _ hHeld ?_
          clear hK K
          try simp only [List.getElem_toArray, List.getElem_cons_succ, List.getElem_cons_zero, Act.put, List.setIfInBounds_toArray, List.set_cons_zero, List.set_cons_succ]
          refine Reg.oneT (i := 20) rfl (by kernel_rfl) (fun K hK => ?_)
          refine step_app (by rfl) _ _ 28 (by rfl) 9 i0 (.string ByteArray.empty) 1 16 Tryz.underlying28 HI.out.1 HI.out.2.1 HI.out.2.2.1 HI.out.2.2.2 rfl (by decide) w.heap.size A2 ms.length c2 (nmC (ms.map bs)) (by rfl) HW.out HB.out.size _ 1 1 [.string (bs (lineY (y1, y2, y3, y4)))] (by rfl) HLT.out rfl (fun h => by cases h) (CDumpI.one_str _) ?n1 ?n2 ?_
          case n1 => unfold maxLen; omega
          case n2 => omega
          intro A9 n9 c9 wz hn9 o9 g9 k9
          subst hn9
          have HX9 := hide (HX.out.grown g9 (HW.out.box HX.out (by decide)))
          have HF9 := hide (HF.out.grown g9 (HW.out.box HF.out (by decide)))
          have HB9 := hide (HB.out.grown g9 HB.out.size (fun j hj => (HW.out.lt j hj).1))
          have HW9 := hide (show Row wz w.heap.size 9 1 A9 (ms ++ [lineY (y1, y2, y3, y4)]).length c9 (nmC ((ms ++ [lineY (y1, y2, y3, y4)]).map bs)) from by
            rw [List.length_append, nmC_snoc]
            exact o9)
          have hq := HML.out
          have HLN9 := hide (show (ms ++ [lineY (y1, y2, y3, y4)]).length = ls.length + (j + 1) from by rw [List.length_append, hq]; rfl)
          have HMN9 := hide (show ms ++ [lineY (y1, y2, y3, y4)] = ls ++ (o.ys.take (j + 1)).map lineY from by rw [HFS.out, HMS.out, List.append_assoc])
          refine hK.out _ _ ⟨HF9.out.cell 0, HF9.out.cell 1, HF9.out.cell 2, HF9.out.cell 3⟩ ?_
          have hHeld : wz.cell? ⟨S2, 0, none⟩ = some (.string y1) ∧ wz.cell? ⟨S2, 1, none⟩ = some (.int .i64 y2) ∧ wz.cell? ⟨S2, 2, none⟩ = some (.int .i64 y3) ∧ wz.cell? ⟨S2, 3, none⟩ = some (.int .i64 y4) := ⟨HF9.out.cell 0, HF9.out.cell 1, HF9.out.cell 2, HF9.out.cell 3⟩
          clear hK K o9 g9 k9 HW HX HB HF hq 
          try simp only [List.getElem_toArray, List.getElem_cons_succ, List.getElem_cons_zero, Act.put, List.setIfInBounds_toArray, List.set_cons_zero, List.set_cons_succ]
          refine Reg.takeT (i := 21) (v := ?_) rfl (by kernel_rfl) (by kernel_rfl) (by kernel_rfl) (by kernel_rfl) (fun _ _ _ h => h) (Or.inl ⟨by rfl, ?_⟩) (by assumption) ?_
          rotate_left 1
          focus (intro w hSw; (try dsimp only at hSw); go_simp; (try with_reducible rfl))
          try simp only [List.getElem_toArray, List.getElem_cons_succ, List.getElem_cons_zero, Act.put, List.setIfInBounds_toArray, List.set_cons_zero, List.set_cons_succ]
          refine Reg.doneT (by kernel_rfl) ?_ _
          clear hHeld g1 g2 g3 g4 g5 g6 g7 hsl q1 q2 q3 hN8
          go_wp2_with fail
          refine ⟨⟨j + 1, A9, c9, _, by omega, by simp, by go_num, HMN9.out, HLN9.out, HW9.out, HX9.out, HB9.out⟩, by simp [intOf]; omega⟩
        · have hje : j = o.ys.length := by omega
          have HEND := hide (show (dumpL o.d).map bs = ms.map bs from by
            rw [HV.out, linesO, HMS.out, hje, List.take_length, HL0.out]
            rfl)
          have hlm : (ms.map bs).length = ms.length := List.length_map ..
          clear hje
          go_wp2_with fail
          go_ret
          rw [HEND.out]
          exact ⟨A2, c2, by rw [hlm]; rfl, by rw [hlm]; exact HW.out, HB.out⟩
end Go.Proofs.YtepoiphmmjfbdaaGreatDoor.CDumpS
/- Contracts of the reference's reader of drawn bytes: it turns its own block alone, and its numbers are in range. -/
namespace Go.Proofs.YtepoiphmmjfbdaaGreatDoor.DPick
set_option maxRecDepth 200000
open Go.ChangeShapes Go.WideShapes Go.ChangeAt Go.RowKit Kit
/-- The reader: its block R holds bytes that lie below block B, and a place of at most N. -/
def Tape (w : World) (B R : Nat) (N : Int) : Prop :=
  B ≤ R ∧ ∃ (A : Option Addr) (zs : List Int) (c : Nat) (p : Int), Box w R 115 #[.slice A zs.length c, .int .i64 p] ∧ Rd w B A (ints .u8 zs) ∧ InR 0 255 zs ∧ zs.length ≤ 2000 ∧ 0 ≤ p ∧ p ≤ N
section
variable {w w' : World} {B R : Nat} {N : Int}
theorem Tape.lt (h : Tape w B R N) : R < w.heap.size := by
  obtain ⟨_, A, zs, c, p, hb, _⟩ := h
  exact hb.lt
theorem Tape.more (h : Tape w B R N) {N' : Int} (hN : N ≤ N') : Tape w B R N' := by
  obtain ⟨h0, A, zs, c, p, hb, hr, hz, hl, p0, p1⟩ := h
  exact ⟨h0, A, zs, c, p, hb, hr, hz, hl, p0, by omega⟩
theorem Tape.below (h : Tape w B R N) (hb : Below (R + 1) w w') : Tape w' B R N := by
  obtain ⟨h0, A, zs, c, p, hx, hr, hz, hl, p0, p1⟩ := h
  exact ⟨h0, A, zs, c, p, hx.below hb (by omega), hr.below (hb.mono (by omega)), hz, hl, p0, p1⟩
theorem Tape.call (h : Tape w B R N) (hb : Below w.heap.size w w') : Tape w' B R N := h.below (hb.mono h.lt)
end
theorem xor_i64 (a b : Nat) (ha : a < 9223372036854775808) (hb : b < 9223372036854775808) : bits .xor .i64 (a : Int) (b : Int) = ((a ^^^ b : Nat) : Int) ∧ a ^^^ b < 9223372036854775808 := by
  have hx : a ^^^ b < 2 ^ 63 := Nat.xor_lt_two_pow (by omega) (by omega)
  refine ⟨?_, by omega⟩
  show IntKind.i64.wrap ((BitVec.ofInt 64 (a : Int) ^^^ BitVec.ofInt 64 (b : Int)).toNat : Int) = _
  rw [BitVec.toNat_xor, ofInt_i64 a ha, ofInt_i64 b hb, IntKind.wrap_i64]
  omega
def Picked (w : World) (B R : Nat) (N : Int) (n : Int) (e : Ending) (w' : World) : Prop := ∃ x : Int, e = .returned (.int .i64 x) ∧ 0 ≤ x ∧ x < n ∧ Tape w' B R (N + 1) ∧ w.grownBy w' (some R)
theorem pick_any {w : World} {B R : Nat} {N : Int} (hT : Tape w B R N) (hN : N ≤ 1099511627776) (n : Int) (hn : 1 ≤ n) (hn' : n ≤ 1099511627776) :
    Calls Tryz.prog 70 #[.pointer (some ⟨R, 0, none⟩), .int .i64 n] w (Picked w B R N n) := by
  obtain ⟨h0, A, zs, c, p, hx, hr, hz, hl, p0, p1⟩ := hT
  have q0 := hx.cell 0
  have q1 := hx.cell 1
  have f0 := hx.frozen 0
  have f1 := hx.frozen 1
  simp only [List.getElem?_toArray, List.getElem?_cons_zero, List.getElem?_cons_succ] at q0 q1
  have HX := hide hx
  clear hx
  have HR := hide hr
  have HZ := hide hz
  clear hr hz
  have hfin : ∀ (x : Int) (w' : World), 0 ≤ x → x < n → w'.heap = (w.setCell ⟨R, 1, none⟩ (.int .i64 (p + 1))).heap → w'.os = w.os → w'.tape = w.tape → w'.output = w.output → Picked w B R N n (.returned (.int .i64 x)) w' := by
    intro x w' x0 x1 hh ho ht hu
    have hk : ∀ k, k ≠ R → w'.heap[k]? = w.heap[k]? := fun k hk => by rw [hh]; exact Below.heap_setCell w ⟨R, 1, none⟩ _ k hk
    refine ⟨x, rfl, x0, x1, ⟨h0, A, zs, c, p + 1, ?_, HR.out.keep (fun a ha => World.cell?_of_block (hk _ (by omega))), HZ.out, hl, by omega, by omega⟩, ho, ht, hu, by rw [hh]; simp [World.setCell], fun k _ hne => hk k (fun e => hne (by rw [e]))⟩
    have := HX.out.set 1 (.int .i64 (p + 1))
    unfold Box at this ⊢
    rw [hh]
    exact this
  have HF := hide hfin
  clear hfin
  have hd : decide (n < 1) = false := by simp; omega
  by_cases hz0 : zs.length = 0
  · go_enter Tryz.func70, Tryz.ntmps70
    go_wp2_with fail
    all_goals (go_ret; exact HF.out 0 _ (by omega) (by omega) rfl rfl rfl rfl)
  · by_cases hk : p < zs.length
    · obtain ⟨k, rfl⟩ := Int.eq_ofNat_of_zero_le p0
      obtain ⟨b, off, rfl, hbb, hc⟩ := HR.out.int (i := k) (by omega)
      obtain ⟨x0, x1⟩ := HZ.out.at_ (i := k) (by omega)
      generalize zs[k] = x at *
      have hbR : b ≠ R := by omega
      go_enter Tryz.func70, Tryz.ntmps70
      go_wp2_with fail
      all_goals (go_ret; exact HF.out (x % n) _ (Int.emod_nonneg _ (by omega)) (Int.emod_lt_of_pos _ (by omega)) rfl rfl rfl rfl)
    · obtain ⟨i1, e1⟩ := Int.eq_ofNat_of_zero_le (Int.emod_nonneg p (show (zs.length : Int) ≠ 0 by omega))
      obtain ⟨i2, e2⟩ := Int.eq_ofNat_of_zero_le (Int.emod_nonneg (p * 7 + 3) (show (zs.length : Int) ≠ 0 by omega))
      have l1 := Int.emod_lt_of_pos p (show 0 < (zs.length : Int) by omega)
      have l2 := Int.emod_lt_of_pos (p * 7 + 3) (show 0 < (zs.length : Int) by omega)
      rw [e1] at l1
      rw [e2] at l2
      have d0 : 0 ≤ p / (zs.length : Int) := Int.ediv_nonneg p0 (by omega)
      have d1 : p / (zs.length : Int) ≤ p := Int.ediv_le_self _ p0
      generalize hdv : p / (zs.length : Int) = dv at *
      obtain ⟨b, off, rfl, hbb, hc1⟩ := HR.out.int (i := i1) (by omega)
      obtain ⟨b', off', e', _, hc2⟩ := HR.out.int (i := i2) (by omega)
      simp only [Option.some.injEq, Addr.mk.injEq, and_true] at e'
      obtain ⟨rfl, rfl⟩ := e'
      obtain ⟨x0, x1⟩ := HZ.out.at_ (i := i1) (by omega)
      obtain ⟨y0, y1⟩ := HZ.out.at_ (i := i2) (by omega)
      generalize zs[i1] = x at *
      generalize zs[i2] = y at *
      have hbR : b ≠ R := by omega
      go_enter Tryz.func70, Tryz.ntmps70
      go_wp2_with fail
      go_quiet (fail)
      obtain ⟨X, hX⟩ := Int.eq_ofNat_of_zero_le (show 0 ≤ x * 131 + y * 1117 + p * 29 + dv * 53 by omega)
      have hXb : (X : Int) ≤ 1125899906842624 := by omega
      rw [hX]
      obtain ⟨M, hM⟩ : ∃ M : Nat, X ^^^ (X / 64) = M := ⟨_, rfl⟩
      obtain ⟨hx1, hx2⟩ := xor_i64 X (X / 64) (by omega) (by omega)
      rw [hM] at hx1 hx2
      have hx1 : bits .xor .i64 (X : Int) ((X : Int) / 64) = (M : Int) := hx1
      have hMb : (M : Int) ≤ 9223372036854775807 := by omega
      clear hX hM hx2 e1 e2 l1 l2 hdv d0 d1 hc1 hc2 hk
      go_wp2_with fail
      all_goals (go_ret; exact HF.out _ _ (Int.emod_nonneg _ (by omega)) (Int.emod_lt_of_pos _ (by omega)) rfl rfl rfl rfl)
theorem odd_any {w : World} {B R : Nat} {N : Int} (hT : Tape w B R N) (hN : N ≤ 1099511627776) (n : Int) (hn : 0 ≤ n) (hn' : n ≤ 1099511627776) :
    Calls Tryz.prog 71 #[.pointer (some ⟨R, 0, none⟩), .int .i64 n] w fun e w' => ∃ b : Bool, e = .returned (.bool b) ∧ Tape w' B R (N + 1) ∧ w.grownBy w' (some R) := by
  by_cases h0 : n = 0
  · subst h0
    go_enter Tryz.func71, Tryz.ntmps71
    go_wp2_with fail
    go_ret
    exact ⟨false, rfl, hT.more (by omega), grown_refl _ _⟩
  · have h1 : 0 < n := by omega
    go_enter Tryz.func71, Tryz.ntmps71
    go_wp2_with fail
    refine (pick_any hT hN n (by omega) hn').mono ?_
    rintro e w1 ⟨x, rfl, x0, x1, T1, g1⟩
    have HT := hide (And.intro T1 g1)
    clear T1 g1 hT
    go_wp2_with fail
    go_ret
    exact ⟨_, rfl, HT.out.1, HT.out.2⟩
/-- What a draw's opening hands back: a new reader. -/
theorem open_any (A : Option Addr) (zs : List Int) (c : Nat) (w : World) (hr : Rd w w.heap.size A (ints .u8 zs)) (hz : InR 0 255 zs) (hc : zs.length ≤ c) (hcm : c ≤ maxLen) :
    Calls Tryz.prog 35 #[.slice A zs.length c] w fun e w' => ∃ R, e = .returned (.pointer (some ⟨R, 0, none⟩)) ∧ Tape w' w.heap.size R 0 ∧ Below w.heap.size w w' := by
  unfold maxLen at hcm
  by_cases h : 2000 < zs.length
  · obtain ⟨b, off, rfl, _, _⟩ := hr.int (i := 0) (by omega)
    obtain ⟨hr', hl'⟩ := hr.slice 0 2000 (by omega)
    simp only [Nat.add_zero, List.drop_zero] at hr' hl'
    have HH := hide (And.intro hr' hl')
    have HZ := hide (show InR 0 255 (zs.take 2000) from fun x hx => hz x (List.mem_of_mem_take hx))
    clear hr hr' hl' hz
    go_enter Tryz.func35, Tryz.ntmps35
    go_wp2_with fail
    go_ret
    have hlen : (zs.take 2000).length = 2000 := by rw [List.length_take]; omega
    have hbx := Box.new w 115 #[.slice (some ⟨b, off, none⟩) 2000 c, .int .i64 0]
    have hbl : Below w.heap.size w (w.alloc (.cells #[.slice (some ⟨b, off, none⟩) 2000 c, .int .i64 0] 115)) := (by repeat (first | exact Below.refl _ _ | with_reducible assumption | (refine Below.drew ?_) | (refine Below.drewN ?_ _) | (refine Below.alloc ?_ (by simp; try omega) _) | (refine Below.setCell ?_ (by simp; try omega) _)))
    exact ⟨w.heap.size, rfl, ⟨Nat.le_refl _, _, zs.take 2000, c, 0, by rw [hlen]; exact hbx, HH.out.1.below hbl, HZ.out, by omega, by omega, by omega⟩, hbl⟩
  · have HR := hide hr
    have HZ := hide hz
    clear hr hz
    go_enter Tryz.func35, Tryz.ntmps35
    go_wp2_with fail
    go_ret
    have hbl : Below w.heap.size w (w.alloc (.cells #[.slice A zs.length c, .int .i64 0] 115)) := (by repeat (first | exact Below.refl _ _ | with_reducible assumption | (refine Below.drew ?_) | (refine Below.drewN ?_ _) | (refine Below.alloc ?_ (by simp; try omega) _) | (refine Below.setCell ?_ (by simp; try omega) _)))
    exact ⟨w.heap.size, rfl, ⟨Nat.le_refl _, _, zs, c, 0, Box.new _ _ _, HR.out.below hbl, HZ.out, by omega, by omega, by omega⟩, hbl⟩
end Go.Proofs.YtepoiphmmjfbdaaGreatDoor.DPick
/- The reader and the world it was opened in; draws of numbers. -/
namespace Go.Proofs.YtepoiphmmjfbdaaGreatDoor.DVar
set_option maxRecDepth 200000
open Go.ChangeShapes Go.WideShapes Go.ChangeAt Go.RowKit Kit DPick
/-- The reader stands at w, and from w0 on nothing but its block has turned. -/
def Tp (w0 w : World) (B R : Nat) (N : Int) : Prop := DPick.Tape w B R N ∧ w0.grownBy w (some R)
section
variable {w0 w w' : World} {B R : Nat} {N : Int}
theorem Tp.start (h : DPick.Tape w B R N) : Tp w w B R N := ⟨h, grown_refl _ _⟩
theorem Tp.call (h : Tp w0 w B R N) (hb : Below w.heap.size w w') : Tp w0 w' B R N := ⟨h.1.call hb, grown_below h.2 hb⟩
theorem Tp.alloc (h : Tp w0 w B R N) (o : Obj) : Tp w0 (w.alloc o) B R N := h.call ((Below.refl _ _).alloc (Nat.le_refl _) o)
theorem Tp.drewN (h : Tp w0 w B R N) (n : Nat) : Tp w0 (w.drewN n) B R N := h.call (Kit.Below.drewN (Below.refl _ _) n)
theorem Tp.drew (h : Tp w0 w B R N) : Tp w0 w.drew B R N := h.call ((Below.refl _ _).drew)
theorem Tp.drawn {d : Nat} (h : Tp w0 w B R N) : Tp w0 { heap := w.heap, tape := w.tape, drawn := d, os := w.os, output := w.output } B R N := h.call ⟨rfl, rfl, rfl, Nat.le_refl _, fun _ _ => rfl⟩
theorem Tp.more (h : Tp w0 w B R N) {N' : Int} (hN : N ≤ N') : Tp w0 w B R N' := ⟨h.1.more hN, h.2⟩
theorem Tp.below {B' : Nat} (h : Tp w0 w B R N) (hB : B' ≤ w0.heap.size) (hR : B' ≤ R) : Below B' w0 w := below_of_grown (Below.refl _ _) h.2 hB hR
theorem pick_tp (h : Tp w0 w B R N) (hN : N ≤ 1099511627776) (n : Int) (hn : 1 ≤ n) (hn' : n ≤ 1099511627776) :
    Calls Tryz.prog 70 #[.pointer (some ⟨R, 0, none⟩), .int .i64 n] w fun e w' => ∃ x : Int, e = .returned (.int .i64 x) ∧ 0 ≤ x ∧ x < n ∧ Tp w0 w' B R (N + 1) ∧ w.grownBy w' (some R) := by
  refine (pick_any h.1 hN n hn hn').mono ?_
  rintro e w' ⟨x, he, x0, x1, T, g⟩
  exact ⟨x, he, x0, x1, ⟨T, grown_trans h.2 g⟩, g⟩
theorem odd_tp (h : Tp w0 w B R N) (hN : N ≤ 1099511627776) (n : Int) (hn : 0 ≤ n) (hn' : n ≤ 1099511627776) :
    Calls Tryz.prog 71 #[.pointer (some ⟨R, 0, none⟩), .int .i64 n] w fun e w' => ∃ b : Bool, e = .returned (.bool b) ∧ Tp w0 w' B R (N + 1) ∧ w.grownBy w' (some R) := by
  refine (odd_any h.1 hN n hn hn').mono ?_
  rintro e w' ⟨x, he, T, g⟩
  exact ⟨x, he, ⟨T, grown_trans h.2 g⟩, g⟩
end
theorem Tp.set {w0 w : World} {B R : Nat} {N : Int} (h : Tp w0 w B R N) {a : Addr} (ha : w0.heap.size ≤ a.block) (hR : R < a.block) (u : Value) : Tp w0 (w.setCell a u) B R N := by
  refine ⟨?_, ⟨h.2.os, h.2.tape, h.2.output, by simpa [World.setCell] using h.2.size, fun k hk hne => (Below.heap_setCell w a u k (by omega)).trans (h.2.block k hk hne)⟩⟩
  obtain ⟨h0, A, zs, c, p, hb, hr, hz, hl, p0, p1⟩ := h.1
  exact ⟨h0, A, zs, c, p, hb.far (by omega) u, hr.keep (fun x hx => World.cell?_of_block (Below.heap_setCell w a u _ (by omega))), hz, hl, p0, p1⟩
theorem Tp.own {w0 w w' : World} {B R : Nat} {N : Int} (h : Tp w0 w B R N) {v : Option Nat} (g : w.grownBy w' v) (hv : ∀ k, v = some k → w0.heap.size ≤ k ∧ R < k) : Tp w0 w' B R N := by
  refine ⟨?_, grown_own h.2 g (fun k hk => (hv k hk).1)⟩
  obtain ⟨h0, A, zs, c, p, hb, hr, hz, hl, p0, p1⟩ := h.1
  have hk : ∀ k, k < R + 1 → w'.heap[k]? = w.heap[k]? := fun k hk => g.block k (Nat.lt_of_lt_of_le hk hb.lt) (fun e => by have := (hv k e.symm).2; omega)
  exact ⟨h0, A, zs, c, p, (hk R (by omega)).trans hb, hr.keep (fun x hx => World.cell?_of_block (hk _ (by omega))), hz, hl, p0, p1⟩
theorem own_pick {w w' : World} {base : Nat} {e : TypeId} {size n : Nat} {v : Value} {xs : List Value} {R : Nat} (h : w.ownsRow base e size v n xs) (g : w.grownBy w' (some R)) (hR : R < base) : w'.ownsRow base e size v n xs :=
  own_keep h fun k hk => g.block k (h.lt k hk).2 (fun e => by injection e with e; have := (h.lt k hk).1; omega)
theorem Tp.lt {w0 w : World} {B R : Nat} {N : Int} (h : Tp w0 w B R N) : R < w.heap.size := h.1.lt
/-- A cell of a literal that was laid just before a number was drawn. -/
theorem lit_at {w1 w2 : World} {cs : Array Value} {t : TypeId} {R : Nat} {k : IntKind} (g : (w1.alloc (.cells cs t)).grownBy w2 (some R)) (hR : R < w1.heap.size) {i : Int} (h0 : 0 ≤ i) (h1 : i < cs.size) (hb : ∀ v ∈ cs.toList, ∃ z, v = Value.int k z) :
    ∃ z, Value.int k z ∈ cs.toList ∧ w2.cell? ⟨w1.heap.size, i.toNat, none⟩ = some (.int k z) := by
  have hx : Box w2 w1.heap.size t cs := (Box.new w1 t cs).grown g (fun k hk => by injection hk with hk; omega)
  have hi' : i.toNat < cs.size := by omega
  obtain ⟨z, hz⟩ := hb (cs[i.toNat]'hi') (by simp)
  refine ⟨z, by rw [← hz]; simp, ?_⟩
  rw [hx.cell, Array.getElem?_eq_getElem hi', hz]
theorem pick_lit {w0 w1 : World} {B R : Nat} {N : Int} {cs : Array Value} {t : TypeId} {k : IntKind} (h : Tp w0 w1 B R N) (hN : N ≤ 1099511627776) (n : Int) (hn : 1 ≤ n) (hn' : n ≤ 1099511627776) (hb : ∀ v ∈ cs.toList, ∃ z, v = Value.int k z) (hs : n ≤ cs.size) :
    Calls Tryz.prog 70 #[.pointer (some ⟨R, 0, none⟩), .int .i64 n] (w1.alloc (.cells cs t)) fun e w' => ∃ x : Int, e = .returned (.int .i64 x) ∧ 0 ≤ x ∧ x < n ∧ Tp w0 w' B R (N + 1) ∧ (w1.alloc (.cells cs t)).grownBy w' (some R) ∧
      ∃ z, Value.int k z ∈ cs.toList ∧ w'.cell? ⟨w1.heap.size, x.toNat, none⟩ = some (.int k z) := by
  refine (pick_tp (h.alloc (.cells cs t)) hN n hn hn').mono ?_
  rintro e w' ⟨x, he, x0, x1, T, g⟩
  exact ⟨x, he, x0, x1, T, g, lit_at g h.lt x0 (by omega) hb⟩
/-- The same where a table of places was laid behind the literal: the number drawn picks a place, the place a cell. -/
theorem pick_lit2 {w0 w1 : World} {B R : Nat} {N : Int} {cs cs2 : Array Value} {t t2 : TypeId} {k : IntKind} (h : Tp w0 w1 B R N) (hN : N ≤ 1099511627776) (n : Int) (hn : 1 ≤ n) (hn' : n ≤ 1099511627776) (hb : ∀ v ∈ cs.toList, ∃ z, v = Value.int k z) (hb2 : ∀ v ∈ cs2.toList, ∃ z, v = Value.int .i64 z ∧ 0 ≤ z ∧ z < cs.size) (hs : n ≤ cs2.size) :
    Calls Tryz.prog 70 #[.pointer (some ⟨R, 0, none⟩), .int .i64 n] ((w1.alloc (.cells cs t)).alloc (.cells cs2 t2)) fun e w' => ∃ x : Int, e = .returned (.int .i64 x) ∧ 0 ≤ x ∧ x < n ∧ Tp w0 w' B R (N + 1) ∧ ((w1.alloc (.cells cs t)).alloc (.cells cs2 t2)).grownBy w' (some R) ∧
      ∃ z y, Value.int .i64 z ∈ cs2.toList ∧ w'.cell? ⟨w1.heap.size + 1, x.toNat, none⟩ = some (.int .i64 z) ∧ 0 ≤ z ∧ z < cs.size ∧ Value.int k y ∈ cs.toList ∧ w'.cell? ⟨w1.heap.size, z.toNat, none⟩ = some (.int k y) := by
  have hb3 : ∀ v ∈ cs2.toList, ∃ z, v = Value.int .i64 z := fun v hv => by
    obtain ⟨z, hz, _⟩ := hb2 v hv
    exact ⟨z, hz⟩
  refine (pick_lit (h.alloc (.cells cs t)) hN n hn hn' hb3 hs).mono ?_
  rintro e w' ⟨x, he, x0, x1, T, g, z, hm, hz⟩
  obtain ⟨z', hz', z0, z1⟩ := hb2 _ hm
  obtain rfl : z = z' := by injection hz'
  have hsz : (w1.alloc (.cells cs t)).heap.size = w1.heap.size + 1 := by simp
  rw [hsz] at hz
  have hx : Box w' w1.heap.size t cs := ((Box.new w1 t cs).alloc _).grown g (fun k hk => by injection hk with hk; have := h.lt; omega)
  have hi' : z.toNat < cs.size := by omega
  obtain ⟨y, hy⟩ := hb (cs[z.toNat]'hi') (by simp)
  refine ⟨x, he, x0, x1, T, g, z, y, hm, hz, z0, z1, by rw [← hy]; simp, ?_⟩
  rw [hx.cell, Array.getElem?_eq_getElem hi', hy]
end Go.Proofs.YtepoiphmmjfbdaaGreatDoor.DVar
/- The draw of a name. -/
namespace Go.Proofs.YtepoiphmmjfbdaaGreatDoor.DName
set_option maxRecDepth 200000
open Go.ChangeShapes Go.WideShapes Go.ChangeAt Go.RowKit Kit DPick DVar
/-- A cell of a literal that was laid just before a number was drawn, told by what all its cells are. -/
theorem pick_litP {p : Value → Prop} {w0 w1 : World} {B R : Nat} {N : Int} {cs : Array Value} {t : TypeId} (h : Tp w0 w1 B R N) (hN : N ≤ 1099511627776) (n : Int) (hn : 1 ≤ n) (hn' : n ≤ 1099511627776) (hb : ∀ v ∈ cs.toList, p v) (hs : n ≤ cs.size) :
    Calls Tryz.prog 70 #[.pointer (some ⟨R, 0, none⟩), .int .i64 n] (w1.alloc (.cells cs t)) fun e w' => ∃ x : Int, e = .returned (.int .i64 x) ∧ 0 ≤ x ∧ x < n ∧ Tp w0 w' B R (N + 1) ∧ (w1.alloc (.cells cs t)).grownBy w' (some R) ∧
      ∃ v, p v ∧ w'.cell? ⟨w1.heap.size, x.toNat, none⟩ = some v := by
  refine (pick_tp (h.alloc (.cells cs t)) hN n hn hn').mono ?_
  rintro e w' ⟨x, he, x0, x1, T, g⟩
  have hx : Box w' w1.heap.size t cs := (Box.new w1 t cs).grown g (fun k hk => by injection hk with hk; have := h.lt; omega)
  have hi' : x.toNat < cs.size := by omega
  refine ⟨x, he, x0, x1, T, g, cs[x.toNat]'hi', hb _ (by simp), ?_⟩
  rw [hx.cell, Array.getElem?_eq_getElem hi']
theorem odd_zero {w : World} {R : Nat} : Calls Tryz.prog 71 #[.pointer (some ⟨R, 0, none⟩), .int .i64 0] w (Pure (.bool false) w) := by
  go_enter Tryz.func71, Tryz.ntmps71
  go_wp2_with fail
  go_ret
  exact ⟨rfl, rfl⟩
def IsName (v : Value) : Prop := ∃ s : ByteArray, v = .string s ∧ 0 < s.size ∧ s.size ≤ 9
def IsText (v : Value) : Prop := ∃ s : ByteArray, v = .string s ∧ s.size ≤ 9
def DrewText (w0 w : World) (B R : Nat) (N : Int) (lo : Nat) (e : Ending) (w' : World) : Prop := ∃ s : ByteArray, e = .returned (.string s) ∧ lo ≤ s.size ∧ s.size ≤ 9 ∧ Tp w0 w' B R N ∧ w.grownBy w' (some R)
theorem grown_lit {w w1 w2 : World} {o : Obj} {R : Nat} (g1 : w.grownBy w1 (some R)) (g2 : (w1.alloc o).grownBy w2 (some R)) : w.grownBy w2 (some R) := grown_trans (grown_alloc g1 o) g2
theorem name_any {w0 w : World} {B R : Nat} {N : Int} (T : Tp w0 w B R N) (hN : N ≤ 1000000) (n : Int) (hn : 0 ≤ n) (hn' : n ≤ 1000) :
    Calls Tryz.prog 108 #[.pointer (some ⟨R, 0, none⟩), .int .i64 n] w (DrewText w0 w B R (N + 2) 0) := by
  go_enter Tryz.func108, Tryz.ntmps108
  go_wp2_with fail
  refine (odd_tp (by first | with_reducible assumption | exact Tp.alloc (by with_reducible assumption) _ | exact Tp.alloc (Tp.alloc (by with_reducible assumption) _) _ | exact Tp.drewN (by with_reducible assumption) _ | exact Tp.drew (by with_reducible assumption) | exact Tp.drawn (by with_reducible assumption) | exact Tp.alloc (Tp.drewN (by with_reducible assumption) _) _ | exact Tp.alloc (Tp.drew (by with_reducible assumption)) _ | exact Tp.alloc (Tp.alloc (Tp.alloc (by with_reducible assumption) _) _) _) (by omega) _ (by omega) (by omega)).mono ?_
  rintro e w1 ⟨bo, rfl, T1, g1⟩
  clear T
  cases bo
  · go_wp2_with fail
    refine (pick_litP (p := IsText) T1 (by omega) _ (by omega) (by omega) (by repeat (first | exact List.forall_mem_nil _ | refine List.forall_mem_cons.2 ⟨⟨_, rfl, by decide⟩, ?_⟩)) (by simp)).mono ?_
    rintro e w2 ⟨x, rfl, x0, x1, T2, g2, v, ⟨s, rfl, s1⟩, hv⟩
    have HG := hide (grown_lit g1 g2)
    clear g1 g2 T1
    go_wp2_with fail
    go_ret
    exact ⟨s, rfl, Nat.zero_le _, s1, T2.more (by omega), HG.out⟩
  · go_wp2_with fail
    refine (pick_litP (p := IsText) T1 (by omega) _ (by omega) (by omega) (by repeat (first | exact List.forall_mem_nil _ | refine List.forall_mem_cons.2 ⟨⟨_, rfl, by decide⟩, ?_⟩)) (by simp)).mono ?_
    rintro e w2 ⟨x, rfl, x0, x1, T2, g2, v, ⟨s, rfl, s1⟩, hv⟩
    have HG := hide (grown_lit g1 g2)
    clear g1 g2 T1
    go_wp2_with fail
    go_ret
    exact ⟨s, rfl, Nat.zero_le _, s1, T2.more (by omega), HG.out⟩
theorem name_ok {w0 w : World} {B R : Nat} {N : Int} (T : Tp w0 w B R N) (hN : N ≤ 1000000) :
    Calls Tryz.prog 108 #[.pointer (some ⟨R, 0, none⟩), .int .i64 0] w (DrewText w0 w B R (N + 2) 1) := by
  go_enter Tryz.func108, Tryz.ntmps108
  go_wp2_with fail
  refine odd_zero.mono ?_
  rintro e w' ⟨rfl, rfl⟩
  go_wp2_with fail
  refine (pick_litP (p := IsName) T (by omega) _ (by omega) (by omega) (by repeat (first | exact List.forall_mem_nil _ | refine List.forall_mem_cons.2 ⟨⟨_, rfl, by decide, by decide⟩, ?_⟩)) (by simp)).mono ?_
  rintro e w2 ⟨x, rfl, x0, x1, T2, g2, v, ⟨s, rfl, s0, s1⟩, hv⟩
  have HG := hide (grown_lit (grown_refl w (some R)) g2)
  clear g2 T
  go_wp2_with fail
  go_ret
  exact ⟨s, rfl, s0, s1, T2.more (by omega), HG.out⟩
end Go.Proofs.YtepoiphmmjfbdaaGreatDoor.DName
/- The draw of bytes. -/
namespace Go.Proofs.YtepoiphmmjfbdaaGreatDoor.DBytes
set_option maxRecDepth 200000
open Go.ChangeShapes Go.WideShapes Go.ChangeAt Go.RowKit Kit DPick DVar
theorem info8 : (Tryz.prog.info? 5).map (fun i => (i.zero, i.size, i.bytes)) = some (some (.int .u8 0), 1, 1) := by kernel_rfl
def DrewBytes (w0 w : World) (B R : Nat) (N : Int) (most : Nat) (e : Ending) (w' : World) : Prop := ∃ (A : Option Addr) (zs : List Int) (c : Nat), e = .returned (.slice A zs.length c) ∧ zs.length ≤ most ∧ InR 0 255 zs ∧ w'.ownsRow w.heap.size 5 1 (.slice A zs.length c) zs.length (ints .u8 zs) ∧ Tp w0 w' B R N
theorem bytes_any {w0 w : World} {B R : Nat} {N : Int} (T : Tp w0 w B R N) (hN : N ≤ 1000000) (hN0 : 0 ≤ N) (most : Nat) (hm : most ≤ 1000) :
    Calls Tryz.prog 134 #[.pointer (some ⟨R, 0, none⟩), .int .i64 most] w (DrewBytes w0 w B R (N + 2 * most + 1) most) := by
  obtain ⟨i0, hi, hz0, hz1, hz2⟩ := info_parts info8
  have hR := T.lt
  have hw0 := T.2.size
  have HO := hide (own_empty (w := w) (E := 5))
  go_enter Tryz.func134, Tryz.ntmps134
  go_wp2_with fail
  refine (pick_tp (by first | with_reducible assumption | exact Tp.alloc (by with_reducible assumption) _ | exact Tp.alloc (Tp.alloc (by with_reducible assumption) _) _ | exact Tp.drewN (by with_reducible assumption) _ | exact Tp.drew (by with_reducible assumption) | exact Tp.drawn (by with_reducible assumption) | exact Tp.alloc (Tp.drewN (by with_reducible assumption) _) _ | exact Tp.alloc (Tp.drew (by with_reducible assumption)) _ | exact Tp.alloc (Tp.alloc (Tp.alloc (by with_reducible assumption) _) _) _) (by omega) _ (by omega) (by omega)).mono ?_
  rintro e w1 ⟨x, rfl, x0, x1, T1, g1⟩
  have HO1 := hide (own_pick HO.out g1 hR)
  have HT1 := hide T1
  obtain ⟨j, rfl⟩ := Int.eq_ofNat_of_zero_le x0
  have hsz1 : w.heap.size ≤ w1.heap.size := by have h1 := g1.size; simp at h1; omega
  clear T T1 g1 HO
  go_wp2_with fail
  go_loopw [5, 6] (fun o k wr => ∃ (i : Nat) (A' : Option Addr) (l c' : Nat) (zs : List Int), k = .int .i64 i ∧ o = .slice A' l c' ∧ l = zs.length ∧ l + i ≤ most ∧ InR 0 255 zs ∧ wr.ownsRow w.heap.size 5 1 (.slice A' l c') l (ints .u8 zs) ∧ Tp w0 wr B R (N + 2 * (most - i : Int) + 1) ∧ w.heap.size ≤ wr.heap.size) (fun _ k _ => (intOf k).toNat)
  case atStart => exact ⟨j, _, 0, _, [], rfl, rfl, rfl, by omega, fun x hx => by simp at hx, HO1.out, HT1.out.more (by omega), hsz1⟩
  case round =>
    obtain ⟨i, A', l, c', zs, rfl, rfl, hl, hli, hzs, ho, T, hszr⟩ := hrel
    have HL := hide hl
    have HZ := hide hzs
    have HO := hide ho
    clear hl hzs ho HO1 HT1
    by_cases h0 : 0 < i
    · go_wp2_with fail
      refine (pick_tp (by first | with_reducible assumption | exact Tp.alloc (by with_reducible assumption) _ | exact Tp.alloc (Tp.alloc (by with_reducible assumption) _) _ | exact Tp.drewN (by with_reducible assumption) _ | exact Tp.drew (by with_reducible assumption) | exact Tp.drawn (by with_reducible assumption) | exact Tp.alloc (Tp.drewN (by with_reducible assumption) _) _ | exact Tp.alloc (Tp.drew (by with_reducible assumption)) _ | exact Tp.alloc (Tp.alloc (Tp.alloc (by with_reducible assumption) _) _) _) (by omega) _ (by omega) (by omega)).mono ?_
      rintro e w2 ⟨y, rfl, y0, y1, T2, g2⟩
      have HO2 := hide (own_pick HO.out g2 hR)
      have g2s := g2.size
      clear T g2 HO
      go_wp2_with fail
      refine (pick_lit T2 (by omega) _ (by omega) (by omega) (by repeat (first | exact List.forall_mem_nil _ | refine List.forall_mem_cons.2 ⟨⟨_, rfl⟩, ?_⟩)) (by simp)).mono ?_
      rintro e w3 ⟨v, rfl, v0, v1, T3, g3, z, hm, hz⟩
      simp only [List.mem_cons, Value.int.injEq, true_and, List.not_mem_nil, or_false] at hm
      have hzb : 0 ≤ z ∧ z ≤ 255 := by omega
      have HO3 := hide (own_pick (HO2.out.alloc _) g3 hR)
      have HT3 := hide T3
      have hsz3 : w.heap.size ≤ w3.heap.size := by have h1 := g3.size; have h2 := hszr; have h3 := g2s; simp at h1; omega
      clear T2 g3 HO2 hm T3
      go_wp2_with (at_builtin; refine wpList_app1 w3 rfl (.tmp 16) (.tmp 25) 22 rfl w.heap.size 5 i0 (.int .u8 0) 1 1 Tryz.underlying22 hi hz0 hz1 hz2 rfl (by decide) _ rfl rfl ?o1 _ _ _ rfl HO3.out ?n1 ?n2 ?n3 ?_)
      case o1 => first | rfl | (simp; done) | (intro u hu; simp at hu; subst hu; rfl)
      case n1 => unfold maxLen; omega
      case n2 => omega
      case n3 => exact hsz3
      intro A4 n4 c4 w4 hn4 o4 g4
      subst hn4
      have T4 := HT3.out.own g4 (fun k hk => ⟨Nat.le_trans hw0 (HO3.out.lt k hk).1, Nat.lt_of_lt_of_le hR (HO3.out.lt k hk).1⟩)
      have HO4 := hide o4
      have HT4 := hide T4
      have hsz4 := Nat.le_trans hsz3 g4.size
      clear o4 g4 T4 HO3 HT3 hz
      go_wp2_with fail
      refine ⟨⟨i - 1, A4, l + 1, c4, zs ++ [z], by go_num, rfl, by rw [HL.out]; simp, by omega, ?_, by simpa using HO4.out, HT4.out.more (by omega), hsz4⟩, by simp [intOf]; omega⟩
      intro a ha
      rcases List.mem_append.1 ha with ha | ha
      · exact HZ.out a ha
      · simp at ha; omega
    · have e : i = 0 := by omega
      subst e
      have hl := HL.out
      subst hl
      go_wp2_with fail
      go_ret
      exact ⟨A', zs, c', rfl, by omega, HZ.out, HO.out, T.more (by omega)⟩
end Go.Proofs.YtepoiphmmjfbdaaGreatDoor.DBytes
