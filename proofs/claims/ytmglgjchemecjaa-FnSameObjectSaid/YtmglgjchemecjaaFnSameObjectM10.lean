/- WriteObject's bytes, of valid objects; the reference's. -/
import Derived.Test.YtmglgjchemecjaaFnSameObjectM9
import Derived.Deep.QuietTactic
import Derived.BigQuiet
import Derived.Test.YtmglgjchemecjaaRows
set_option linter.unusedSimpArgs false
set_option linter.unusedVariables false
namespace Go.Proofs.Ytmglgjchemecjaa.CWriteBS
set_option maxRecDepth 200000
open Go.ChangeShapes Go.WideShapes Go.ChangeAt Go.RowKit Kit CCode CName CNumber CFixups CSymbols PObj BObj PValid PWarn PClear CSecValid CObjValid CObjValidS BStore CMarkRows BList PLink PLinkL CSorted CNames CNameTab CTable CTableOf CTableS CNamesS CPlOf CHead CWriteO CWriteOS CWriteB
set_option maxHeartbeats 8000000 in
theorem writeObjectS_any (o : OV) (w : World) (hr : RdO w w.heap.size o) (hf : Fit o) (hok : objOk o.d = true) (hn : ∀ p ∈ o.ps, p.A = none → p.c = 0) :
    Calls Try.prog 90 #[.agg #[.slice o.A o.ps.length o.c, .slice o.Y o.ys.length o.yc]] w (RetB (writeB o.d) w) := by
  obtain ⟨i0, hi1, hi2, hi3, hi4⟩ := info_parts CNumber.info8
  have HI := hide (And.intro hi1 (And.intro hi2 (And.intro hi3 hi4)))
  clear hi1 hi2 hi3 hi4
  obtain ⟨g8, g12, g3, g4, _⟩ := (obj_iff _).1 hok
  have h8 : o.ps.length ≤ 8 := by simpa [OV.d] using g8
  have h12 : o.ys.length ≤ 12 := g12
  have HAL := hide (obj_all hok).2.2
  have H6 := hide (show ∀ p ∈ o.ps, p.fs.length ≤ 6 ∧ p.zs.length ≤ 48 from fun p hp => by
    have h := (obj_all hok).2.2 p.d (List.mem_map_of_mem hp)
    exact ⟨h.1, h.2.1⟩)
  have hfx := fixN_bd o.d.ss fun s hs => ((obj_all hok).2.2 s hs).1
  have hfx2 : o.d.ss.length = o.ps.length := by simp [OV.d]
  have HTB := hide (show (1 ≤ (tabN (namesD o.d)).length ∧ (tabN (namesD o.d)).length ≤ 181) ∧ InR 0 255 (tabN (namesD o.d)) from by
    have hno : namesOk (namesD o.d) = true := by
      unfold namesOk namesD
      simp only [Bool.and_eq_true, decide_eq_true_eq, List.all_eq_true]
      refine ⟨by simp; omega, fun x hx => ?_⟩
      rcases List.mem_append.1 hx with hx | hx
      · obtain ⟨s, hs, rfl⟩ := List.mem_map.1 hx
        have h := g3 s hs
        simp only [secOk, PValid.headOk, Bool.and_eq_true] at h
        exact h.1.1.1
      · obtain ⟨y, hy, rfl⟩ := List.mem_map.1 hx
        have h := g4 y hy
        simp only [symOk, bindOk, Bool.and_eq_true] at h
        exact h.1.1
    have e : tabN (namesD o.d) = tabL (srtN (namesD o.d)) := by unfold tabN; rw [hno]; rfl
    rw [e]
    have hsz : ∀ x ∈ srtN (namesD o.d), x.size ≤ 8 := fun x hx => by
      simp only [namesOk, Bool.and_eq_true, List.all_eq_true] at hno
      exact name_size (hno.2 x (srt_mem hx))
    obtain ⟨t1, t2⟩ := tab_len hsz
    have hl := srt_len_le (namesD o.d)
    have hl2 : (namesD o.d).length ≤ 20 := by simp [namesD]; omega
    exact ⟨⟨t1, by omega⟩, tab_in _⟩)
  have HFP := hide (show ∀ p ∈ o.ps, ∀ f ∈ p.fs, -1000 ≤ f.2.2.2 ∧ f.2.2.2 ≤ 1000 from fun p hp => sec_pl (g3 p.d (List.mem_map_of_mem hp)))
  have H4 := hide (show ∀ y ∈ o.ys, -2 ≤ y.2.2.1 ∧ y.2.2.1 ≤ 7 from fun y hy => by
    have h := g4 y hy
    simp only [symOk, placeOk, Bool.and_eq_true] at h
    have h2 := h.2
    split at h2
    · omega
    · split at h2
      · omega
      · simp only [inB, Bool.and_eq_true, decide_eq_true_eq] at h2
        have : (o.d.ss.length : Int) ≤ 8 := by exact_mod_cast g8
        omega)
  clear g8 g12 g3 g4
  have HR := hide hr
  have HF := hide hf
  have HN := hide hn
  have HOK := hide hok
  have HB := hide (show Below w.heap.size w (w.alloc (.cells #[.slice o.A o.ps.length o.c, .slice o.Y o.ys.length o.yc] 26)) from (by repeat (first | exact Below.refl _ _ | with_reducible assumption | (refine Below.drew ?_) | (refine Below.drewN ?_ _) | (refine Below.alloc ?_ (by simp; try omega) _) | (refine Below.setCell ?_ (by simp; try omega) _))))
  have HX := hide (Box.new w 26 #[.slice o.A o.ps.length o.c, .slice o.Y o.ys.length o.yc])
  clear hr hf hn hok
  have x0 := HX.out.cell 0
  have x1 := HX.out.cell 1
  simp only [List.getElem?_toArray, List.getElem?_cons_zero, List.getElem?_cons_succ] at x0 x1
  have hxl := HX.out.lt
  go_enter Try.func90, Try.ntmps90
  go_wp2_with fail
  clear x0 x1 hxl
  generalize w.alloc (.cells #[.slice o.A o.ps.length o.c, .slice o.Y o.ys.length o.yc] 26) = w0 at *
  refine (objectValidS_any o w0 ((HR.out.below HB.out).more HB.out.size) HF.out).mono ?_
  rintro e w1 ⟨rfl, b1⟩
  rw [HOK.out]
  replace HB := hide (HB.out.trans (b1.mono HB.out.size))
  replace HX := hide (HX.out.call b1)
  clear b1
  have x0 := HX.out.cell 0
  have x1 := HX.out.cell 1
  simp only [List.getElem?_toArray, List.getElem?_cons_zero, List.getElem?_cons_succ] at x0 x1
  have hxl := HX.out.lt
  go_wp2_with fail
  clear x0 x1 hxl
  refine (l6Names_any o w1 ((HR.out.below HB.out).more HB.out.size) h8 h12).mono ?_
  rintro e wn ⟨An, cn, rfl, rn, bn⟩
  replace HB := hide (HB.out.trans (bn.mono HB.out.size))
  replace HX := hide (HX.out.call bn)
  clear bn
  have HRN := hide rn
  have HNS := hide (show (namesD o.d).length ≤ 1000 ∧ ∀ x ∈ namesD o.d, x.size ≤ maxLen from ⟨by simp [namesD, OV.d]; omega, fun x hx => by
    rcases List.mem_append.1 hx with hx | hx
    · obtain ⟨s, hs, rfl⟩ := List.mem_map.1 hx
      obtain ⟨p, hp, rfl⟩ := List.mem_map.1 hs
      exact (HF.out.p p hp).1
    · obtain ⟨s, hs, rfl⟩ := List.mem_map.1 hx
      exact HF.out.y s hs⟩)
  have HTC := hide (nameTableS_any An (namesD o.d) cn _ wn rn HNS.out.1 HNS.out.2)
  clear rn HRN
  generalize hND : namesD o.d = nd at HTC ⊢
  have HND := hide hND
  clear hND
  go_wp2_with fail
  refine HTC.out.mono ?_
  rw [← HND.out]
  rintro e w2 ⟨At, ct, rfl, rt, b2⟩
  have HT := hide (rt.down HB.out.size)
  have HTN := hide rt
  replace HB := hide (HB.out.trans (b2.mono HB.out.size))
  replace HX := hide (HX.out.call b2)
  clear b2
  clear rt HTC
  generalize hT : tabN (namesD o.d) = t at *
  have HTD := hide (show tabD o.d = t from hT)
  obtain ⟨ht1, ht2⟩ := HTB.out.1
  have hkt : ∀ k, blk At ct = some k → k < w2.heap.size := fun k hk => (HT.out.lt k hk).2
  have HKT := hide hkt
  clear hT HTN hkt
  have x0 := HX.out.cell 0
  have x1 := HX.out.cell 1
  simp only [List.getElem?_toArray, List.getElem?_cons_zero, List.getElem?_cons_succ] at x0 x1
  have hxl := HX.out.lt
  go_wp2_with fail
  have Z0 : w2.cell? ⟨w.heap.size, 0, none⟩ = some (.slice o.A o.ps.length o.c) ∧ w2.cell? ⟨w.heap.size, 1, none⟩ = some (.slice o.Y o.ys.length o.yc) := ⟨x0, x1⟩
  refine Reg.startT (fun W => W.cell? ⟨w.heap.size, 0, none⟩ = some (.slice o.A o.ps.length o.c) ∧ W.cell? ⟨w.heap.size, 1, none⟩ = some (.slice o.Y o.ys.length o.yc)) (fun _ => false) (by kernel_rfl) ?_
  have hHeld : w2.drew.cell? ⟨w.heap.size, 0, none⟩ = some (.slice o.A o.ps.length o.c) ∧ w2.drew.cell? ⟨w.heap.size, 1, none⟩ = some (.slice o.Y o.ys.length o.yc) := Z0
  clear Z0 x0 x1 hxl
  refine Reg.takeT (i := 0) (v := ?_) rfl (by kernel_rfl) (by kernel_rfl) (by kernel_rfl) (by kernel_rfl) (fun _ _ _ h => h) (Or.inl ⟨by rfl, ?_⟩) (by assumption) ?_
  rotate_left 1
  focus (intro w hSw; (try dsimp only at hSw); go_simp; (try with_reducible rfl))
  try simp only [List.getElem_toArray, List.getElem_cons_succ, List.getElem_cons_zero, Act.put, List.setIfInBounds_toArray, List.set_cons_zero, List.set_cons_succ]
  refine Reg.takeT (i := 1) (v := ?_) rfl (by kernel_rfl) (by kernel_rfl) (by kernel_rfl) (by kernel_rfl) (fun _ _ _ h => h) (Or.inl ⟨by rfl, ?_⟩) (by assumption) ?_
  rotate_left 1
  focus (intro w hSw; (try dsimp only at hSw); go_simp; (try with_reducible rfl))
  try simp only [List.getElem_toArray, List.getElem_cons_succ, List.getElem_cons_zero, Act.put, List.setIfInBounds_toArray, List.set_cons_zero, List.set_cons_succ]
  refine Reg.takeT (i := 2) (v := ?_) rfl (by kernel_rfl) (by kernel_rfl) (by kernel_rfl) (by kernel_rfl) (fun _ _ _ h => h) (Or.inl ⟨by rfl, ?_⟩) (by assumption) ?_
  rotate_left 1
  focus (intro w hSw; (try dsimp only at hSw); go_simp; (try with_reducible rfl))
  try simp only [List.getElem_toArray, List.getElem_cons_succ, List.getElem_cons_zero, Act.put, List.setIfInBounds_toArray, List.set_cons_zero, List.set_cons_succ]
  refine Reg.takeT (i := 3) (v := ?_) rfl (by kernel_rfl) (by kernel_rfl) (by kernel_rfl) (by kernel_rfl) (fun _ _ _ h => h) (Or.inl ⟨by rfl, ?_⟩) (by assumption) ?_
  rotate_left 1
  focus (intro w hSw; (try dsimp only at hSw); go_simp; (try with_reducible rfl))
  try simp only [List.getElem_toArray, List.getElem_cons_succ, List.getElem_cons_zero, Act.put, List.setIfInBounds_toArray, List.set_cons_zero, List.set_cons_succ]
  refine Reg.takeT (i := 4) (v := ?_) rfl (by kernel_rfl) (by kernel_rfl) (by kernel_rfl) (by kernel_rfl) (fun _ _ _ h => h) (Or.inl ⟨by rfl, ?_⟩) (by assumption) ?_
  rotate_left 1
  focus (intro w hSw; (try dsimp only at hSw); go_simp; (try with_reducible rfl))
  try simp only [List.getElem_toArray, List.getElem_cons_succ, List.getElem_cons_zero, Act.put, List.setIfInBounds_toArray, List.set_cons_zero, List.set_cons_succ]
  refine Reg.takeT (i := 5) (v := ?_) rfl (by kernel_rfl) (by kernel_rfl) (by kernel_rfl) (by kernel_rfl) (fun _ _ _ h => h) (Or.inl ⟨by rfl, ?_⟩) (by assumption) ?_
  rotate_left 1
  focus (intro w hSw; (try dsimp only at hSw); go_simp; (try with_reducible rfl))
  try simp only [List.getElem_toArray, List.getElem_cons_succ, List.getElem_cons_zero, Act.put, List.setIfInBounds_toArray, List.set_cons_zero, List.set_cons_succ]
  refine Reg.takeT (i := 6) (v := ?_) rfl (by kernel_rfl) (by kernel_rfl) (by kernel_rfl) (by kernel_rfl) (fun _ _ _ h => h) (Or.inl ⟨by rfl, ?_⟩) (by assumption) ?_
  rotate_left 1
  focus (intro w hSw; (try dsimp only at hSw); go_simp; (try with_reducible rfl))
  try simp only [List.getElem_toArray, List.getElem_cons_succ, List.getElem_cons_zero, Act.put, List.setIfInBounds_toArray, List.set_cons_zero, List.set_cons_succ]
  refine Reg.takeT (i := 8) (v := ?_) rfl (by kernel_rfl) (by kernel_rfl) (by kernel_rfl) (by kernel_rfl) (fun _ _ _ h => h) (Or.inl ⟨by rfl, ?_⟩) (by assumption) ?_
  rotate_left 1
  focus (intro w hSw; (try dsimp only at hSw); go_simp; (try with_reducible rfl))
  try simp only [List.getElem_toArray, List.getElem_cons_succ, List.getElem_cons_zero, Act.put, List.setIfInBounds_toArray, List.set_cons_zero, List.set_cons_succ]
  refine Reg.takeT (i := 9) (v := ?_) rfl (by kernel_rfl) (by kernel_rfl) (by kernel_rfl) (by kernel_rfl) (fun _ _ _ h => h) (Or.inl ⟨by rfl, ?_⟩) (by assumption) ?_
  rotate_left 1
  focus (intro w hSw; (try dsimp only at hSw); go_simp; (try with_reducible rfl))
  try simp only [List.getElem_toArray, List.getElem_cons_succ, List.getElem_cons_zero, Act.put, List.setIfInBounds_toArray, List.set_cons_zero, List.set_cons_succ]
  have bd : Below w2.heap.size w2 w2.drew := below_dr (Below.refl _ _)
  have hs2 : w2.drew.heap.size = w2.heap.size := rfl
  replace HT := hide (HT.out.call bd)
  replace HB := hide (HB.out.trans (bd.mono HB.out.size))
  replace HX := hide (HX.out.call bd)
  clear bd
  generalize w2.drew = w3 at *
  refine Reg.oneT (i := 7) rfl (by kernel_rfl) (fun K hK => ?_)
  go_simp
  refine (fixupsOfS_any o w3 ((HR.out.below HB.out).more HB.out.size) h8 (fun p hp => (H6.out p hp).1)).mono ?_
  rintro e w4 ⟨rfl, b4⟩
  have hs4 : w2.heap.size ≤ w4.heap.size := by have := b4.size; omega
  replace HT := hide (HT.out.call b4)
  replace HB := hide (HB.out.trans (b4.mono HB.out.size))
  replace HX := hide (HX.out.call b4)
  clear b4
  clear hHeld hs2
  have x0 := HX.out.cell 0
  have x1 := HX.out.cell 1
  simp only [List.getElem?_toArray, List.getElem?_cons_zero, List.getElem?_cons_succ] at x0 x1
  have hHeld : w4.cell? ⟨w.heap.size, 0, none⟩ = some (.slice o.A o.ps.length o.c) ∧ w4.cell? ⟨w.heap.size, 1, none⟩ = some (.slice o.Y o.ys.length o.yc) := ⟨x0, x1⟩
  clear x0 x1
  refine hK.out _ _ hHeld ?_
  clear hK K
  try simp only [List.getElem_toArray, List.getElem_cons_succ, List.getElem_cons_zero, Act.put, List.setIfInBounds_toArray, List.set_cons_zero, List.set_cons_succ]
  refine Reg.takeT (i := 10) (v := ?_) rfl (by kernel_rfl) (by kernel_rfl) (by kernel_rfl) (by kernel_rfl) (fun _ _ _ h => h) (Or.inl ⟨by rfl, ?_⟩) (by assumption) ?_
  rotate_left 1
  focus (intro w hSw; (try dsimp only at hSw); go_simp; (try with_reducible rfl))
  try simp only [List.getElem_toArray, List.getElem_cons_succ, List.getElem_cons_zero, Act.put, List.setIfInBounds_toArray, List.set_cons_zero, List.set_cons_succ]
  have HHO := hide (show CHead.headOk o.ps.length o.ys.length (fixN o.d.ss) t.length = true from by
    simp only [CHead.headOk, Bool.and_eq_true, inB, decide_eq_true_eq]
    omega)
  generalize hfn : fixN o.d.ss = fn at *
  have HFN := hide hfn
  clear hfn
  refine Reg.oneT (i := 11) rfl (by kernel_rfl) (fun K hK => ?_)
  go_simp
  refine (CHeadS.putHeaderS_any o.ps.length o.ys.length fn t.length w4 HHO.out).mono ?_
  rintro e w5 ⟨A5, c5, rfl, r5, b5⟩
  have HHL := hide (show (headB o.ps.length o.ys.length fn t.length).length = 10 from by
    unfold headB
    simp [putL_len])
  generalize hhd : headB o.ps.length o.ys.length fn t.length = hd at *
  have HHD := hide hhd
  clear hhd
  have HW := hide (show WI w o At ct t A5 c5 hd w5 from ⟨r5.down HB.out.size, HT.out.call b5, (fun k h1 h2 => by
    have e1 := (r5.lt k h1).1
    have e2 := HKT.out k h2
    omega), HX.out.call b5, HB.out.trans (b5.mono HB.out.size)⟩)
  have hz0 := (HX.out.call b5).cell 0
  have hz1 := (HX.out.call b5).cell 1
  clear r5 b5 hHeld
  refine hK.out _ _ ⟨by simpa using hz0, by simpa using hz1⟩ ?_
  clear hK K
  try simp only [List.getElem_toArray, List.getElem_cons_succ, List.getElem_cons_zero, Act.put, List.setIfInBounds_toArray, List.set_cons_zero, List.set_cons_succ]
  have hHeld : w5.cell? ⟨w.heap.size, 0, none⟩ = some (.slice o.A o.ps.length o.c) ∧ w5.cell? ⟨w.heap.size, 1, none⟩ = some (.slice o.Y o.ys.length o.yc) := ⟨by simpa using hz0, by simpa using hz1⟩
  clear hz0 hz1 HT HX HB
  refine Reg.takeT (i := 12) (v := ?_) rfl (by kernel_rfl) (by kernel_rfl) (by kernel_rfl) (by kernel_rfl) (fun _ _ _ h => h) (Or.inl ⟨by rfl, ?_⟩) (by assumption) ?_
  rotate_left 1
  focus (intro w hSw; (try dsimp only at hSw); go_simp; (try with_reducible rfl))
  try simp only [List.getElem_toArray, List.getElem_cons_succ, List.getElem_cons_zero, Act.put, List.setIfInBounds_toArray, List.set_cons_zero, List.set_cons_succ]
  clear hHeld
  refine Reg.doneT (by kernel_rfl) ?_ _
  go_wp2_with fail
  go_loopw [4, 5] (fun s i wi => ∃ (k : Nat) (A1 : Option Addr) (c1 : Nat) (zs : List Int), k ≤ o.ps.length ∧ s = .slice A1 zs.length c1 ∧ i = .int .i64 k ∧ zs = hd ++ ((o.ps.take k).map SV.d).flatMap (secB t) ∧ zs.length ≤ 10 + 6 * k ∧ WI w o At ct t A1 c1 zs wi) (fun _ i _ => o.ps.length - (intOf i).toNat)
  case atStart => exact ⟨0, A5, c5, hd, Nat.zero_le _, rfl, rfl, (List.append_nil _).symm, by rw [HHL.out]; decide, HW.out⟩
  case round =>
    clear HW
    obtain ⟨k, A1, c1, zs, hk, rfl, rfl, hzs, hzl, hw⟩ := hrel
    have HW := hide hw
    have x0 := HW.out.bx.cell 0
    simp only [List.getElem?_toArray, List.getElem?_cons_zero, List.getElem?_cons_succ] at x0
    have hxl := HW.out.bx.lt
    by_cases hlt : k < o.ps.length
    · obtain ⟨b, off, hA, hbb, hc⟩ := (HR.out.1.1.below hw.b).row secC_len (by decide) hlt
      have hc0 := hc 0 _ rfl
      have hc1 := hc 1 _ rfl
      have hc2 := hc 2 _ rfl
      have hc3 := hc 3 _ rfl
      have hc4 := hc 4 _ rfl
      have hc5 := hc 5 _ rfl
      simp only [Nat.add_zero] at hc0
      have HZ := hide (show hd ++ ((o.ps.take (k + 1)).map SV.d).flatMap (secB t) = zs ++ secB t (o.ps[k]).d from by
        rw [take_succ hlt, List.map_append, List.flatMap_append, ← List.append_assoc, ← hzs]
        simp)
      have hlim := H6.out _ (List.getElem_mem hlt)
      obtain ⟨hl6, hl48⟩ := hlim
      clear hw hzs hc
      rw [hA] at x0
      have HA := hide hA
      clear hA
      generalize o.ps[k] = p at *
      have B1 : Below wr.heap.size wr (wr.alloc (.cells #[.string p.nm, .int .i64 p.kd, .int .i64 p.al, .slice p.A p.zs.length p.c, .int .i64 p.sz, .slice p.F p.fs.length p.fc] 73)) := (by repeat (first | exact Below.refl _ _ | with_reducible assumption | (refine Below.drew ?_) | (refine Below.drewN ?_ _) | (refine Below.alloc ?_ (by simp; try omega) _) | (refine Below.setCell ?_ (by simp; try omega) _)))
      have HS := hide (Box.new wr 73 #[.string p.nm, .int .i64 p.kd, .int .i64 p.al, .slice p.A p.zs.length p.c, .int .i64 p.sz, .slice p.F p.fs.length p.fc])
      replace HW := hide (HW.out.call B1)
      clear B1
      go_wp2_with fail
      clear hc0 hc1 hc2 hc3 hc4 hc5 x0 hxl
      generalize wr.alloc (.cells #[.string p.nm, .int .i64 p.kd, .int .i64 p.al, .slice p.A p.zs.length p.c, .int .i64 p.sz, .slice p.F p.fs.length p.fc] 73) = ws at *
      generalize wr.heap.size = S at *
      refine (CPlOfS.placeOfS_any At t ct p.nm _ ws HW.out.tb.rd HTB.out.2 (by omega) HW.out.tb.cap.1).mono ?_
      rintro e w' ⟨rfl, rfl⟩
      generalize hpl : plOf t p.nm = pl at *
      have HPL := hide hpl
      clear hpl
      go_wp2_with fail
      refine (putNumberS_any pl 2 ws).mono ?_
      rintro e w7 ⟨A7, c7, rfl, o7, b7⟩
      have HO := hide (Row.own o7)
      replace HS := hide (HS.out.call b7)
      replace HW := hide (HW.out.call b7)
      have hyl := pnum_le pl
      clear o7 b7
      generalize hy : pnum pl 2 = ys at *
      have HY := hide hy
      clear hy
      have HYL := hide (show (ints .u8 ys).length = ys.length * 1 from by simp)
      go_wp2_with (at_builtin; refine wpList_app w7 rfl (.tmp 44) (.tmp 49) 22 rfl 5 i0 (.int .u8 0) 1 1 Try.underlying22 HI.out.1 HI.out.2.1 HI.out.2.2.1 HI.out.2.2.2 rfl (by decide) w.heap.size A1 zs.length c1 (ints .u8 zs) rfl HW.out.row HW.out.b.size A7 ys.length c7 (ints .u8 ys) rfl HO.out.rd HYL.out HO.out.nil oneI (by unfold maxLen; omega) (by omega) ?_)
      intro A8 n8 c8 w8 hn8 o8 g8 k8
      replace HS := hide (HS.out.grown g8 (HW.out.row.box HS.out (by decide)))
      replace HW := hide (HW.out.add hn8 o8 g8 k8)
      have hn8' : n8 = (zs ++ ys).length := by rw [hn8, List.length_append]
      have hzl8 : (zs ++ ys).length ≤ 12 + 6 * k := by rw [List.length_append]; omega
      subst hn8'
      clear hn8 o8 g8 k8 HO HYL
      generalize hq : zs ++ ys = qs at *
      have HQ := hide hq
      clear hq
      have x0 := HS.out.cell 0
      have x1 := HS.out.cell 1
      have x2 := HS.out.cell 2
      have x3 := HS.out.cell 3
      have x4 := HS.out.cell 4
      have x5 := HS.out.cell 5
      simp only [List.getElem?_toArray, List.getElem?_cons_zero, List.getElem?_cons_succ] at x0 x1 x2 x3 x4 x5
      have hxl := HS.out.lt
      go_wp2_with fail
      have Z0 : w8.cell? ⟨S, 0, none⟩ = some (.string p.nm) ∧ w8.cell? ⟨S, 1, none⟩ = some (.int .i64 p.kd) ∧ w8.cell? ⟨S, 2, none⟩ = some (.int .i64 p.al) ∧ w8.cell? ⟨S, 3, none⟩ = some (.slice p.A p.zs.length p.c) ∧ w8.cell? ⟨S, 4, none⟩ = some (.int .i64 p.sz) ∧ w8.cell? ⟨S, 5, none⟩ = some (.slice p.F p.fs.length p.fc) := ⟨x0, x1, x2, x3, x4, x5⟩
      clear x0 x1 x2 x3 x4 x5 hxl
      refine Reg.startT (fun W => W.cell? ⟨S, 0, none⟩ = some (.string p.nm) ∧ W.cell? ⟨S, 1, none⟩ = some (.int .i64 p.kd) ∧ W.cell? ⟨S, 2, none⟩ = some (.int .i64 p.al) ∧ W.cell? ⟨S, 3, none⟩ = some (.slice p.A p.zs.length p.c) ∧ W.cell? ⟨S, 4, none⟩ = some (.int .i64 p.sz) ∧ W.cell? ⟨S, 5, none⟩ = some (.slice p.F p.fs.length p.fc)) (fun j => j == 16) (by kernel_rfl) ?_
      replace HS := hide (show Box w8.drew S 73 #[.string p.nm, .int .i64 p.kd, .int .i64 p.al, .slice p.A p.zs.length p.c, .int .i64 p.sz, .slice p.F p.fs.length p.fc] from HS.out.call (below_dr (Below.refl _ _)))
      replace HW := hide (HW.out.call (below_dr (Below.refl _ _)))
      have hHeld : w8.drew.cell? ⟨S, 0, none⟩ = some (.string p.nm) ∧ w8.drew.cell? ⟨S, 1, none⟩ = some (.int .i64 p.kd) ∧ w8.drew.cell? ⟨S, 2, none⟩ = some (.int .i64 p.al) ∧ w8.drew.cell? ⟨S, 3, none⟩ = some (.slice p.A p.zs.length p.c) ∧ w8.drew.cell? ⟨S, 4, none⟩ = some (.int .i64 p.sz) ∧ w8.drew.cell? ⟨S, 5, none⟩ = some (.slice p.F p.fs.length p.fc) := Z0
      clear Z0
      generalize w8.drew = w9 at *
      refine Reg.takeT (i := 0) (v := ?_) rfl (by kernel_rfl) (by kernel_rfl) (by kernel_rfl) (by kernel_rfl) (fun _ _ _ h => h) (Or.inl ⟨by rfl, ?_⟩) (by assumption) ?_
      rotate_left 1
      focus (intro w hSw; (try dsimp only at hSw); go_simp; (try with_reducible rfl))
      try simp only [List.getElem_toArray, List.getElem_cons_succ, List.getElem_cons_zero, Act.put, List.setIfInBounds_toArray, List.set_cons_zero, List.set_cons_succ]
      refine Reg.takeT (i := 1) (v := ?_) rfl (by kernel_rfl) (by kernel_rfl) (by kernel_rfl) (by kernel_rfl) (fun _ _ _ h => h) (Or.inl ⟨by rfl, ?_⟩) (by assumption) ?_
      rotate_left 1
      focus (intro w hSw; (try dsimp only at hSw); go_simp; (try with_reducible rfl))
      try simp only [List.getElem_toArray, List.getElem_cons_succ, List.getElem_cons_zero, Act.put, List.setIfInBounds_toArray, List.set_cons_zero, List.set_cons_succ]
      refine Reg.takeT (i := 2) (v := ?_) rfl (by kernel_rfl) (by kernel_rfl) (by kernel_rfl) (by kernel_rfl) (fun _ _ _ h => h) (Or.inl ⟨by rfl, ?_⟩) (by assumption) ?_
      rotate_left 1
      focus (intro w hSw; (try dsimp only at hSw); go_simp; (try with_reducible rfl))
      try simp only [List.getElem_toArray, List.getElem_cons_succ, List.getElem_cons_zero, Act.put, List.setIfInBounds_toArray, List.set_cons_zero, List.set_cons_succ]
      refine Reg.takeT (i := 3) (v := ?_) rfl (by kernel_rfl) (by kernel_rfl) (by kernel_rfl) (by kernel_rfl) (fun _ _ _ h => h) (Or.inl ⟨by rfl, ?_⟩) (by assumption) ?_
      rotate_left 1
      focus (intro w hSw; (try dsimp only at hSw); go_simp; (try with_reducible rfl))
      try simp only [List.getElem_toArray, List.getElem_cons_succ, List.getElem_cons_zero, Act.put, List.setIfInBounds_toArray, List.set_cons_zero, List.set_cons_succ]
      refine Reg.takeT (i := 4) (v := ?_) rfl (by kernel_rfl) (by kernel_rfl) (by kernel_rfl) (by kernel_rfl) (fun _ _ _ h => h) (Or.inl ⟨by rfl, ?_⟩) (by assumption) ?_
      rotate_left 1
      focus (intro w hSw; (try dsimp only at hSw); go_simp; (try with_reducible rfl))
      try simp only [List.getElem_toArray, List.getElem_cons_succ, List.getElem_cons_zero, Act.put, List.setIfInBounds_toArray, List.set_cons_zero, List.set_cons_succ]
      refine Reg.takeT (i := 5) (v := ?_) rfl (by kernel_rfl) (by kernel_rfl) (by kernel_rfl) (by kernel_rfl) (fun _ _ _ h => h) (Or.inl ⟨by rfl, ?_⟩) (by assumption) ?_
      rotate_left 1
      focus (intro w hSw; (try dsimp only at hSw); go_simp; (try with_reducible rfl))
      try simp only [List.getElem_toArray, List.getElem_cons_succ, List.getElem_cons_zero, Act.put, List.setIfInBounds_toArray, List.set_cons_zero, List.set_cons_succ]
      refine Reg.takeT (i := 6) (v := ?_) rfl (by kernel_rfl) (by kernel_rfl) (by kernel_rfl) (by kernel_rfl) (fun _ _ _ h => h) (Or.inl ⟨by rfl, ?_⟩) (by assumption) ?_
      rotate_left 1
      focus (intro w hSw; (try dsimp only at hSw); go_simp; (try with_reducible rfl))
      try simp only [List.getElem_toArray, List.getElem_cons_succ, List.getElem_cons_zero, Act.put, List.setIfInBounds_toArray, List.set_cons_zero, List.set_cons_succ]
      refine Reg.takeT (i := 7) (v := ?_) rfl (by kernel_rfl) (by kernel_rfl) (by kernel_rfl) (by kernel_rfl) (fun _ _ _ h => h) (Or.inl ⟨by rfl, ?_⟩) (by assumption) ?_
      rotate_left 1
      focus (intro w hSw; (try dsimp only at hSw); go_simp; (try with_reducible rfl))
      try simp only [List.getElem_toArray, List.getElem_cons_succ, List.getElem_cons_zero, Act.put, List.setIfInBounds_toArray, List.set_cons_zero, List.set_cons_succ]
      refine Reg.takeT (i := 10) (v := ?_) rfl (by kernel_rfl) (by kernel_rfl) (by kernel_rfl) (by kernel_rfl) (fun _ _ _ h => h) (Or.inl ⟨by rfl, ?_⟩) (by assumption) ?_
      rotate_left 1
      focus (intro w hSw; (try dsimp only at hSw); go_simp; (try with_reducible rfl))
      try simp only [List.getElem_toArray, List.getElem_cons_succ, List.getElem_cons_zero, Act.put, List.setIfInBounds_toArray, List.set_cons_zero, List.set_cons_succ]
      refine Reg.takeT (i := 11) (v := ?_) rfl (by kernel_rfl) (by kernel_rfl) (by kernel_rfl) (by kernel_rfl) (fun _ _ _ h => h) (Or.inl ⟨by rfl, ?_⟩) (by assumption) ?_
      rotate_left 1
      focus (intro w hSw; (try dsimp only at hSw); go_simp; (try with_reducible rfl))
      try simp only [List.getElem_toArray, List.getElem_cons_succ, List.getElem_cons_zero, Act.put, List.setIfInBounds_toArray, List.set_cons_zero, List.set_cons_succ]
      refine Reg.takeT (i := 12) (v := ?_) rfl (by kernel_rfl) (by kernel_rfl) (by kernel_rfl) (by kernel_rfl) (fun _ _ _ h => h) (Or.inl ⟨by rfl, ?_⟩) (by assumption) ?_
      rotate_left 1
      focus (intro w hSw; (try dsimp only at hSw); go_simp; (try with_reducible rfl))
      try simp only [List.getElem_toArray, List.getElem_cons_succ, List.getElem_cons_zero, Act.put, List.setIfInBounds_toArray, List.set_cons_zero, List.set_cons_succ]
      refine Reg.takeT (i := 13) (v := ?_) rfl (by kernel_rfl) (by kernel_rfl) (by kernel_rfl) (by kernel_rfl) (fun _ _ _ h => h) (Or.inl ⟨by rfl, ?_⟩) (by assumption) ?_
      rotate_left 1
      focus (intro w hSw; (try dsimp only at hSw); go_simp; (try with_reducible rfl))
      try simp only [List.getElem_toArray, List.getElem_cons_succ, List.getElem_cons_zero, Act.put, List.setIfInBounds_toArray, List.set_cons_zero, List.set_cons_succ]
      refine Reg.oneT (i := 8) rfl (by kernel_rfl) (fun K hK => ?_)
      go_simp
      refine (sectionSizeS_any p w9 (by unfold maxLen; omega)).mono ?_
      rintro e w10 ⟨rfl, b10⟩
      clear hHeld
      replace HS := hide (HS.out.call b10)
      replace HW := hide (HW.out.call b10)
      clear b10
      have hHeld : w10.cell? ⟨S, 0, none⟩ = some (.string p.nm) ∧ w10.cell? ⟨S, 1, none⟩ = some (.int .i64 p.kd) ∧ w10.cell? ⟨S, 2, none⟩ = some (.int .i64 p.al) ∧ w10.cell? ⟨S, 3, none⟩ = some (.slice p.A p.zs.length p.c) ∧ w10.cell? ⟨S, 4, none⟩ = some (.int .i64 p.sz) ∧ w10.cell? ⟨S, 5, none⟩ = some (.slice p.F p.fs.length p.fc) := ⟨by simpa using HS.out.cell 0, by simpa using HS.out.cell 1, by simpa using HS.out.cell 2, by simpa using HS.out.cell 3, by simpa using HS.out.cell 4, by simpa using HS.out.cell 5⟩
      refine hK.out _ _ hHeld ?_
      clear hK K
      try simp only [List.getElem_toArray, List.getElem_cons_succ, List.getElem_cons_zero, Act.put, List.setIfInBounds_toArray, List.set_cons_zero, List.set_cons_succ]
      refine Reg.takeT (i := 9) (v := ?_) rfl (by kernel_rfl) (by kernel_rfl) (by kernel_rfl) (by kernel_rfl) (fun _ _ _ h => h) (Or.inl ⟨by rfl, ?_⟩) (by assumption) ?_
      rotate_left 1
      focus (intro w hSw; (try dsimp only at hSw); go_simp; (try with_reducible rfl))
      try simp only [List.getElem_toArray, List.getElem_cons_succ, List.getElem_cons_zero, Act.put, List.setIfInBounds_toArray, List.set_cons_zero, List.set_cons_succ]
      clear hHeld
      refine Reg.oneT (i := 14) rfl (by kernel_rfl) (fun K hK => ?_)
      go_simp
      have b14 : Below w10.heap.size w10 (w10.alloc (.cells #[.int .u8 (IntKind.u8.wrap p.kd), .int .u8 (IntKind.u8.wrap p.al), .int .u8 (IntKind.u8.wrap (secSize p.d)), .int .u8 (IntKind.u8.wrap p.fs.length)] 5)) := (by repeat (first | exact Below.refl _ _ | with_reducible assumption | (refine Below.drew ?_) | (refine Below.drewN ?_ _) | (refine Below.alloc ?_ (by simp; try omega) _) | (refine Below.setCell ?_ (by simp; try omega) _)))
      replace HS := hide (HS.out.call b14)
      replace HW := hide (HW.out.call b14)
      clear b14
      have HLIT := hide (rd_lit w10 #[.int .u8 (IntKind.u8.wrap p.kd), .int .u8 (IntKind.u8.wrap p.al), .int .u8 (IntKind.u8.wrap (secSize p.d)), .int .u8 (IntKind.u8.wrap p.fs.length)] 5 _ rfl)
      generalize hxs : [IntKind.u8.wrap p.kd, IntKind.u8.wrap p.al, IntKind.u8.wrap (secSize p.d), IntKind.u8.wrap p.fs.length] = xs at *
      have hxl : xs.length = 4 := by rw [← hxs]; rfl
      have HXS := hide (And.intro hxs (show ([.int .u8 (IntKind.u8.wrap p.kd), .int .u8 (IntKind.u8.wrap p.al), .int .u8 (IntKind.u8.wrap (secSize p.d)), .int .u8 (IntKind.u8.wrap p.fs.length)] : List Value) = ints .u8 xs from by rw [← hxs]; rfl))
      clear hxs
      generalize w10.alloc (.cells #[.int .u8 (IntKind.u8.wrap p.kd), .int .u8 (IntKind.u8.wrap p.al), .int .u8 (IntKind.u8.wrap (secSize p.d)), .int .u8 (IntKind.u8.wrap p.fs.length)] 5) = w11 at *
      generalize w10.heap.size = L at *
      refine hK.out _ _ ⟨by simpa using HS.out.cell 0, by simpa using HS.out.cell 1, by simpa using HS.out.cell 2, by simpa using HS.out.cell 3, by simpa using HS.out.cell 4, by simpa using HS.out.cell 5⟩ ?_
      clear hK K
      try simp only [List.getElem_toArray, List.getElem_cons_succ, List.getElem_cons_zero, Act.put, List.setIfInBounds_toArray, List.set_cons_zero, List.set_cons_succ]
      replace HLIT := hide (show Rd w11 (L + 1) (some ⟨L, 0, none⟩) (ints .u8 xs) from by
        have h := HLIT.out
        simp only at h
        rw [← HXS.out.2]
        exact h)
      refine Reg.oneT (i := 15) rfl (by kernel_rfl) (fun K hK => ?_)
      refine step_app (by rfl) _ _ 22 rfl 5 i0 (.int .u8 0) 1 1 Try.underlying22 HI.out.1 HI.out.2.1 HI.out.2.2.1 HI.out.2.2.2 rfl (by decide) w.heap.size A8 qs.length c8 (ints .u8 qs) (by rfl) HW.out.row HW.out.b.size (some ⟨L, 0, none⟩) 4 4 (ints .u8 xs) (by rfl) HLIT.out (by simp [hxl]) (fun h => by cases h) oneI (by unfold maxLen; omega) (by omega) ?_
      intro A2 n2 c2 w12 hn o12 g12 k12
      replace HS := hide (HS.out.grown g12 (HW.out.row.box HS.out (by decide)))
      replace HW := hide (HW.out.add (by rw [hxl]; exact hn) o12 g12 k12)
      have hn' : n2 = (qs ++ xs).length := by rw [hn, List.length_append, hxl]
      have hl12 : (qs ++ xs).length ≤ 10 + 6 * (k + 1) := by rw [List.length_append]; omega
      subst hn'
      clear hn o12 g12 k12 HLIT
      refine hK.out _ _ ⟨by simpa using HS.out.cell 0, by simpa using HS.out.cell 1, by simpa using HS.out.cell 2, by simpa using HS.out.cell 3, by simpa using HS.out.cell 4, by simpa using HS.out.cell 5⟩ ?_
      clear hK K
      try simp only [List.getElem_toArray, List.getElem_cons_succ, List.getElem_cons_zero, Act.put, List.setIfInBounds_toArray, List.set_cons_zero, List.set_cons_succ]
      have hHeld : w12.cell? ⟨S, 0, none⟩ = some (.string p.nm) ∧ w12.cell? ⟨S, 1, none⟩ = some (.int .i64 p.kd) ∧ w12.cell? ⟨S, 2, none⟩ = some (.int .i64 p.al) ∧ w12.cell? ⟨S, 3, none⟩ = some (.slice p.A p.zs.length p.c) ∧ w12.cell? ⟨S, 4, none⟩ = some (.int .i64 p.sz) ∧ w12.cell? ⟨S, 5, none⟩ = some (.slice p.F p.fs.length p.fc) := ⟨by simpa using HS.out.cell 0, by simpa using HS.out.cell 1, by simpa using HS.out.cell 2, by simpa using HS.out.cell 3, by simpa using HS.out.cell 4, by simpa using HS.out.cell 5⟩
      refine Reg.lastT (i := 16) rfl (by kernel_rfl) (by rfl) (fun K hK => ?_)
      go_simp
      refine hK.out _ _ ?_
      clear hK K
      try simp only [List.getElem_toArray, List.getElem_cons_succ, List.getElem_cons_zero, Act.put, List.setIfInBounds_toArray, List.set_cons_zero, List.set_cons_succ]
      refine Reg.doneT (by kernel_rfl) ?_ _
      go_wp2_with fail
      refine ⟨⟨k + 1, A2, c2, qs ++ xs, by omega, by rw [List.length_append, hxl], by go_num, ?_, hl12, HW.out⟩, by simp [intOf]; omega⟩
      rw [HZ.out, ← HQ.out, List.append_assoc]
      unfold secB b8
      show zs ++ (ys ++ xs) = zs ++ (pnum (plOf t p.nm) 2 ++ [IntKind.u8.wrap p.kd, IntKind.u8.wrap p.al, IntKind.u8.wrap (secSize p.d), IntKind.u8.wrap p.fs.length])
      rw [HPL.out, HY.out, HXS.out.1]
    · have hke : k = o.ps.length := by omega
      subst hke
      rw [List.take_length] at hzs
      have hzs : zs = hd ++ o.d.ss.flatMap (secB t) := hzs
      have hz1 : zs.length ≤ 58 := by omega
      have HZS := hide hzs
      clear hw hzs hzl hlt hk
      go_wp2_with fail
      clear x0 hxl
      generalize zs = zs1 at *
      generalize wr = w6 at *
      go_loopw [4, 7] (fun s i wi => ∃ (k : Nat) (A1 : Option Addr) (c1 : Nat) (zs : List Int), k ≤ o.ys.length ∧ s = .slice A1 zs.length c1 ∧ i = .int .i64 k ∧ zs = zs1 ++ (o.ys.take k).flatMap (symB t) ∧ zs.length ≤ 58 + 6 * k ∧ WI w o At ct t A1 c1 zs wi) (fun _ i _ => o.ys.length - (intOf i).toNat)
      case atStart => exact ⟨0, A1, c1, zs1, Nat.zero_le _, rfl, rfl, (List.append_nil _).symm, by omega, HW.out⟩
      case round =>
        clear HW
        obtain ⟨k, A1, c1, zs, hk, rfl, rfl, hzs, hzl, hw⟩ := hrel
        have HW := hide hw
        have x1 := HW.out.bx.cell 1
        simp only [List.getElem?_toArray, List.getElem?_cons_zero, List.getElem?_cons_succ] at x1
        have hxl := HW.out.bx.lt
        by_cases hlt : k < o.ys.length
        · obtain ⟨b, off, hA, hbb, hc⟩ := (HR.out.2.below hw.b).row symbolC_len (by decide) hlt
          have hc0 := hc 0 _ rfl
          have hc1 := hc 1 _ rfl
          have hc2 := hc 2 _ rfl
          have hc3 := hc 3 _ rfl
          simp only [Nat.add_zero] at hc0
          have HZ := hide (show zs1 ++ (o.ys.take (k + 1)).flatMap (symB t) = zs ++ symB t o.ys[k] from by
            rw [take_succ hlt, List.flatMap_append, ← List.append_assoc, ← hzs]
            simp)
          have hlim := H4.out _ (List.getElem_mem hlt)
          clear hw hzs hc
          rw [hA] at x1
          have HA := hide hA
          clear hA
          generalize o.ys[k] = z at *
          obtain ⟨z1, z2, z3, z4⟩ := z
          simp only at hc0 hc1 hc2 hc3 hlim
          have hwr : IntKind.i64.wrap (z3 + 2) = z3 + 2 := IntWalk.i64_in _ (by omega)
          clear hlim
          have B1 : Below wr.heap.size wr (wr.alloc (.cells #[.string z1, .int .i64 z2, .int .i64 z3, .int .i64 z4] 69)) := (by repeat (first | exact Below.refl _ _ | with_reducible assumption | (refine Below.drew ?_) | (refine Below.drewN ?_ _) | (refine Below.alloc ?_ (by simp; try omega) _) | (refine Below.setCell ?_ (by simp; try omega) _)))
          have HS := hide (Box.new wr 69 #[.string z1, .int .i64 z2, .int .i64 z3, .int .i64 z4])
          replace HW := hide (HW.out.call B1)
          clear B1
          go_wp2_with fail
          clear hc0 hc1 hc2 hc3 x1 hxl
          generalize wr.alloc (.cells #[.string z1, .int .i64 z2, .int .i64 z3, .int .i64 z4] 69) = ws at *
          generalize wr.heap.size = S at *
          refine (CPlOfS.placeOfS_any At t ct z1 _ ws HW.out.tb.rd HTB.out.2 (by omega) HW.out.tb.cap.1).mono ?_
          rintro e w' ⟨rfl, rfl⟩
          generalize hpl : plOf t z1 = pl at *
          have HPL := hide hpl
          clear hpl
          go_wp2_with fail
          refine (putNumberS_any pl 2 ws).mono ?_
          rintro e w7 ⟨A7, c7, rfl, o7, b7⟩
          have HO := hide (Row.own o7)
          replace HS := hide (HS.out.call b7)
          replace HW := hide (HW.out.call b7)
          have hyl := pnum_le pl
          clear o7 b7
          generalize hy : pnum pl 2 = ys at *
          have HY := hide hy
          clear hy
          have HYL := hide (show (ints .u8 ys).length = ys.length * 1 from by simp)
          go_wp2_with (at_builtin; refine wpList_app w7 rfl (.tmp 79) (.tmp 84) 22 rfl 5 i0 (.int .u8 0) 1 1 Try.underlying22 HI.out.1 HI.out.2.1 HI.out.2.2.1 HI.out.2.2.2 rfl (by decide) w.heap.size A1 zs.length c1 (ints .u8 zs) rfl HW.out.row HW.out.b.size A7 ys.length c7 (ints .u8 ys) rfl HO.out.rd HYL.out HO.out.nil oneI (by unfold maxLen; omega) (by omega) ?_)
          intro A8 n8 c8 w8 hn8 o8 g8 k8
          replace HS := hide (HS.out.grown g8 (HW.out.row.box HS.out (by decide)))
          replace HW := hide (HW.out.add hn8 o8 g8 k8)
          have hn8' : n8 = (zs ++ ys).length := by rw [hn8, List.length_append]
          have hzl8 : (zs ++ ys).length ≤ 60 + 6 * k := by rw [List.length_append]; omega
          subst hn8'
          clear hn8 o8 g8 k8 HO HYL
          generalize hq : zs ++ ys = qs at *
          have HQ := hide hq
          clear hq
          have x0 := HS.out.cell 0
          have x1 := HS.out.cell 1
          have x2 := HS.out.cell 2
          have x3 := HS.out.cell 3
          simp only [List.getElem?_toArray, List.getElem?_cons_zero, List.getElem?_cons_succ] at x0 x1 x2 x3
          have hxl := HS.out.lt
          go_wp2_with fail
          have Z0 : w8.cell? ⟨S, 0, none⟩ = some (.string z1) ∧ w8.cell? ⟨S, 1, none⟩ = some (.int .i64 z2) ∧ w8.cell? ⟨S, 2, none⟩ = some (.int .i64 z3) ∧ w8.cell? ⟨S, 3, none⟩ = some (.int .i64 z4) := ⟨x0, x1, x2, x3⟩
          clear x0 x1 x2 x3 hxl
          refine Reg.startT (fun W => W.cell? ⟨S, 0, none⟩ = some (.string z1) ∧ W.cell? ⟨S, 1, none⟩ = some (.int .i64 z2) ∧ W.cell? ⟨S, 2, none⟩ = some (.int .i64 z3) ∧ W.cell? ⟨S, 3, none⟩ = some (.int .i64 z4)) (fun j => j == 14) (by kernel_rfl) ?_
          replace HS := hide (show Box w8.drew S 69 #[.string z1, .int .i64 z2, .int .i64 z3, .int .i64 z4] from HS.out.call (below_dr (Below.refl _ _)))
          replace HW := hide (HW.out.call (below_dr (Below.refl _ _)))
          have hHeld : w8.drew.cell? ⟨S, 0, none⟩ = some (.string z1) ∧ w8.drew.cell? ⟨S, 1, none⟩ = some (.int .i64 z2) ∧ w8.drew.cell? ⟨S, 2, none⟩ = some (.int .i64 z3) ∧ w8.drew.cell? ⟨S, 3, none⟩ = some (.int .i64 z4) := Z0
          clear Z0
          generalize w8.drew = w9 at *
          refine Reg.takeT (i := 0) (v := ?_) rfl (by kernel_rfl) (by kernel_rfl) (by kernel_rfl) (by kernel_rfl) (fun _ _ _ h => h) (Or.inl ⟨by rfl, ?_⟩) (by assumption) ?_
          rotate_left 1
          focus (intro w hSw; (try dsimp only at hSw); go_simp; (try with_reducible rfl))
          try simp only [List.getElem_toArray, List.getElem_cons_succ, List.getElem_cons_zero, Act.put, List.setIfInBounds_toArray, List.set_cons_zero, List.set_cons_succ]
          refine Reg.takeT (i := 1) (v := ?_) rfl (by kernel_rfl) (by kernel_rfl) (by kernel_rfl) (by kernel_rfl) (fun _ _ _ h => h) (Or.inl ⟨by rfl, ?_⟩) (by assumption) ?_
          rotate_left 1
          focus (intro w hSw; (try dsimp only at hSw); go_simp; (try with_reducible rfl))
          try simp only [List.getElem_toArray, List.getElem_cons_succ, List.getElem_cons_zero, Act.put, List.setIfInBounds_toArray, List.set_cons_zero, List.set_cons_succ]
          refine Reg.takeT (i := 2) (v := ?_) rfl (by kernel_rfl) (by kernel_rfl) (by kernel_rfl) (by kernel_rfl) (fun _ _ _ h => h) (Or.inl ⟨by rfl, ?_⟩) (by assumption) ?_
          rotate_left 1
          focus (intro w hSw; (try dsimp only at hSw); go_simp; (try with_reducible rfl))
          try simp only [List.getElem_toArray, List.getElem_cons_succ, List.getElem_cons_zero, Act.put, List.setIfInBounds_toArray, List.set_cons_zero, List.set_cons_succ]
          refine Reg.takeT (i := 3) (v := ?_) rfl (by kernel_rfl) (by kernel_rfl) (by kernel_rfl) (by kernel_rfl) (fun _ _ _ h => h) (Or.inl ⟨by rfl, ?_⟩) (by assumption) ?_
          rotate_left 1
          focus (intro w hSw; (try dsimp only at hSw); go_simp; (try with_reducible rfl))
          try simp only [List.getElem_toArray, List.getElem_cons_succ, List.getElem_cons_zero, Act.put, List.setIfInBounds_toArray, List.set_cons_zero, List.set_cons_succ]
          refine Reg.takeT (i := 4) (v := ?_) rfl (by kernel_rfl) (by kernel_rfl) (by kernel_rfl) (by kernel_rfl) (fun _ _ _ h => h) (Or.inl ⟨by rfl, ?_⟩) (by assumption) ?_
          rotate_left 1
          focus (intro w hSw; (try dsimp only at hSw); go_simp; (try with_reducible rfl))
          try simp only [List.getElem_toArray, List.getElem_cons_succ, List.getElem_cons_zero, Act.put, List.setIfInBounds_toArray, List.set_cons_zero, List.set_cons_succ]
          refine Reg.takeT (i := 5) (v := ?_) rfl (by kernel_rfl) (by kernel_rfl) (by kernel_rfl) (by kernel_rfl) (fun _ _ _ h => h) (Or.inl ⟨by rfl, ?_⟩) (by assumption) ?_
          rotate_left 1
          focus (intro w hSw; (try dsimp only at hSw); go_simp; (try with_reducible rfl))
          try simp only [List.getElem_toArray, List.getElem_cons_succ, List.getElem_cons_zero, Act.put, List.setIfInBounds_toArray, List.set_cons_zero, List.set_cons_succ]
          refine Reg.takeT (i := 6) (v := ?_) rfl (by kernel_rfl) (by kernel_rfl) (by kernel_rfl) (by kernel_rfl) (fun _ _ _ h => h) (Or.inl ⟨by rfl, ?_⟩) (by assumption) ?_
          rotate_left 1
          focus (intro w hSw; (try dsimp only at hSw); go_simp; (try with_reducible rfl))
          try simp only [List.getElem_toArray, List.getElem_cons_succ, List.getElem_cons_zero, Act.put, List.setIfInBounds_toArray, List.set_cons_zero, List.set_cons_succ]
          refine Reg.takeT (i := 7) (v := ?_) rfl (by kernel_rfl) (by kernel_rfl) (by kernel_rfl) (by kernel_rfl) (fun _ _ _ h => h) (Or.inl ⟨by rfl, ?_⟩) (by assumption) ?_
          rotate_left 1
          focus (intro w hSw; (try dsimp only at hSw); go_simp; (try with_reducible rfl))
          try simp only [List.getElem_toArray, List.getElem_cons_succ, List.getElem_cons_zero, Act.put, List.setIfInBounds_toArray, List.set_cons_zero, List.set_cons_succ]
          refine Reg.takeT (i := 10) (v := ?_) rfl (by kernel_rfl) (by kernel_rfl) (by kernel_rfl) (by kernel_rfl) (fun _ _ _ h => h) (Or.inl ⟨by rfl, ?_⟩) (by assumption) ?_
          rotate_left 1
          focus (intro w hSw; (try dsimp only at hSw); go_simp; (try with_reducible rfl))
          try simp only [List.getElem_toArray, List.getElem_cons_succ, List.getElem_cons_zero, Act.put, List.setIfInBounds_toArray, List.set_cons_zero, List.set_cons_succ]
          refine Reg.takeT (i := 11) (v := ?_) rfl (by kernel_rfl) (by kernel_rfl) (by kernel_rfl) (by kernel_rfl) (fun _ _ _ h => h) (Or.inl ⟨by rfl, ?_⟩) (by assumption) ?_
          rotate_left 1
          focus (intro w hSw; (try dsimp only at hSw); go_simp; (try with_reducible rfl))
          try simp only [List.getElem_toArray, List.getElem_cons_succ, List.getElem_cons_zero, Act.put, List.setIfInBounds_toArray, List.set_cons_zero, List.set_cons_succ]
          clear hHeld
          refine Reg.oneT (i := 8) rfl (by kernel_rfl) (fun K hK => ?_)
          go_simp
          have b14 : Below w9.heap.size w9 (w9.alloc (.cells #[.int .u8 (IntKind.u8.wrap z2), .int .u8 (IntKind.u8.wrap (z3 + 2))] 5)) := (by repeat (first | exact Below.refl _ _ | with_reducible assumption | (refine Below.drew ?_) | (refine Below.drewN ?_ _) | (refine Below.alloc ?_ (by simp; try omega) _) | (refine Below.setCell ?_ (by simp; try omega) _)))
          replace HS := hide (HS.out.call b14)
          replace HW := hide (HW.out.call b14)
          clear b14
          have HLIT := hide (rd_lit w9 #[.int .u8 (IntKind.u8.wrap z2), .int .u8 (IntKind.u8.wrap (z3 + 2))] 5 _ rfl)
          generalize hxs : ([IntKind.u8.wrap z2, IntKind.u8.wrap (z3 + 2)] : List Int) = xs at *
          have hxl : xs.length = 2 := by rw [← hxs]; rfl
          have HXS := hide (And.intro hxs (show ([.int .u8 (IntKind.u8.wrap z2), .int .u8 (IntKind.u8.wrap (z3 + 2))] : List Value) = ints .u8 xs from by rw [← hxs]; rfl))
          clear hxs
          generalize w9.alloc (.cells #[.int .u8 (IntKind.u8.wrap z2), .int .u8 (IntKind.u8.wrap (z3 + 2))] 5) = w11 at *
          generalize w9.heap.size = L at *
          refine hK.out _ _ ⟨by simpa using HS.out.cell 0, by simpa using HS.out.cell 1, by simpa using HS.out.cell 2, by simpa using HS.out.cell 3⟩ ?_
          clear hK K
          try simp only [List.getElem_toArray, List.getElem_cons_succ, List.getElem_cons_zero, Act.put, List.setIfInBounds_toArray, List.set_cons_zero, List.set_cons_succ]
          replace HLIT := hide (show Rd w11 (L + 1) (some ⟨L, 0, none⟩) (ints .u8 xs) from by
            have h := HLIT.out
            simp only at h
            rw [← HXS.out.2]
            exact h)
          refine Reg.oneT (i := 9) rfl (by kernel_rfl) (fun K hK => ?_)
          refine step_app (by rfl) _ _ 22 rfl 5 i0 (.int .u8 0) 1 1 Try.underlying22 HI.out.1 HI.out.2.1 HI.out.2.2.1 HI.out.2.2.2 rfl (by decide) w.heap.size A8 qs.length c8 (ints .u8 qs) (by rfl) HW.out.row HW.out.b.size (some ⟨L, 0, none⟩) 2 2 (ints .u8 xs) (by rfl) HLIT.out (by simp [hxl]) (fun h => by cases h) oneI (by unfold maxLen; omega) (by omega) ?_
          intro A9 n9 c9 w12 hn o12 g12 k12
          replace HS := hide (HS.out.grown g12 (HW.out.row.box HS.out (by decide)))
          replace HW := hide (HW.out.add (by rw [hxl]; exact hn) o12 g12 k12)
          have hn' : n9 = (qs ++ xs).length := by rw [hn, List.length_append, hxl]
          have hzl9 : (qs ++ xs).length ≤ 62 + 6 * k := by rw [List.length_append, hxl]; omega
          subst hn'
          clear hn o12 g12 k12 HLIT
          generalize hq2 : qs ++ xs = us at *
          have HQ2 := hide hq2
          clear hq2
          refine hK.out _ _ ⟨by simpa using HS.out.cell 0, by simpa using HS.out.cell 1, by simpa using HS.out.cell 2, by simpa using HS.out.cell 3⟩ ?_
          clear hK K
          try simp only [List.getElem_toArray, List.getElem_cons_succ, List.getElem_cons_zero, Act.put, List.setIfInBounds_toArray, List.set_cons_zero, List.set_cons_succ]
          refine Reg.oneT (i := 12) rfl (by kernel_rfl) (fun K hK => ?_)
          go_simp
          refine (putNumberS_any z4 2 w12).mono ?_
          rintro e w10 ⟨A10, c10, rfl, o10, b10⟩
          have HO := hide (Row.own o10)
          replace HS := hide (HS.out.call b10)
          replace HW := hide (HW.out.call b10)
          have hvl := pnum_le z4
          clear o10 b10
          generalize hv : pnum z4 2 = vs at *
          have HV := hide hv
          clear hv
          have HVL := hide (show (ints .u8 vs).length = vs.length * 1 from by simp)
          refine hK.out _ _ ⟨by simpa using HS.out.cell 0, by simpa using HS.out.cell 1, by simpa using HS.out.cell 2, by simpa using HS.out.cell 3⟩ ?_
          clear hK K
          try simp only [List.getElem_toArray, List.getElem_cons_succ, List.getElem_cons_zero, Act.put, List.setIfInBounds_toArray, List.set_cons_zero, List.set_cons_succ]
          refine Reg.oneT (i := 13) rfl (by kernel_rfl) (fun K hK => ?_)
          refine step_app (by rfl) _ _ 22 rfl 5 i0 (.int .u8 0) 1 1 Try.underlying22 HI.out.1 HI.out.2.1 HI.out.2.2.1 HI.out.2.2.2 rfl (by decide) w.heap.size A9 us.length c9 (ints .u8 us) (by rfl) HW.out.row HW.out.b.size A10 vs.length c10 (ints .u8 vs) (by rfl) HO.out.rd HVL.out HO.out.nil oneI (by unfold maxLen; omega) (by omega) ?_
          intro A11 n11 c11 w11b hn11 o11 g11 k11
          replace HS := hide (HS.out.grown g11 (HW.out.row.box HS.out (by decide)))
          replace HW := hide (HW.out.add hn11 o11 g11 k11)
          have hn' : n11 = (us ++ vs).length := by rw [hn11, List.length_append]
          have hl' : (us ++ vs).length ≤ 58 + 6 * (k + 1) := by rw [List.length_append]; omega
          subst hn'
          clear hn11 o11 g11 k11 HO HVL
          refine hK.out _ _ ⟨by simpa using HS.out.cell 0, by simpa using HS.out.cell 1, by simpa using HS.out.cell 2, by simpa using HS.out.cell 3⟩ ?_
          clear hK K
          try simp only [List.getElem_toArray, List.getElem_cons_succ, List.getElem_cons_zero, Act.put, List.setIfInBounds_toArray, List.set_cons_zero, List.set_cons_succ]
          have hHeld : w11b.cell? ⟨S, 0, none⟩ = some (.string z1) ∧ w11b.cell? ⟨S, 1, none⟩ = some (.int .i64 z2) ∧ w11b.cell? ⟨S, 2, none⟩ = some (.int .i64 z3) ∧ w11b.cell? ⟨S, 3, none⟩ = some (.int .i64 z4) := ⟨by simpa using HS.out.cell 0, by simpa using HS.out.cell 1, by simpa using HS.out.cell 2, by simpa using HS.out.cell 3⟩
          refine Reg.lastT (i := 14) rfl (by kernel_rfl) (by rfl) (fun K hK => ?_)
          go_simp
          refine hK.out _ _ ?_
          clear hK K
          try simp only [List.getElem_toArray, List.getElem_cons_succ, List.getElem_cons_zero, Act.put, List.setIfInBounds_toArray, List.set_cons_zero, List.set_cons_succ]
          refine Reg.doneT (by kernel_rfl) ?_ _
          have HF := hide (show us ++ vs = zs ++ symB t (z1, z2, z3, z4) from by
            rw [← HQ2.out, ← HQ.out]
            unfold symB b8
            show zs ++ ys ++ xs ++ vs = zs ++ (pnum (plOf t z1) 2 ++ [IntKind.u8.wrap z2, IntKind.u8.wrap (z3 + 2)] ++ pnum z4 2)
            rw [HPL.out, HY.out, HXS.out.1, HV.out]
            simp only [List.append_assoc])
          go_wp2_with fail
          exact ⟨⟨k + 1, A11, c11, us ++ vs, by omega, by first | rfl | rw [List.length_append], by go_num, by rw [HZ.out, HF.out], hl', HW.out⟩, by simp [intOf]; omega⟩
        · have hke : k = o.ys.length := by omega
          subst hke
          rw [List.take_length] at hzs
          have hz2 : zs.length ≤ 130 := by omega
          have HZS2 := hide hzs
          clear hw hzs hzl hlt hk
          go_wp2_with fail
          clear x1 hxl
          generalize zs = zs2 at *
          generalize wr = w7 at *
          go_loopw [4, 9] (fun s i wi => ∃ (k : Nat) (A1 : Option Addr) (c1 : Nat) (zs : List Int), k ≤ o.ps.length ∧ s = .slice A1 zs.length c1 ∧ i = .int .i64 k ∧ zs = zs2 ++ ((o.ps.take k).map SV.d).flatMap (fun s => s.fs.flatMap fixB) ∧ zs.length ≤ 130 + 30 * k ∧ WI w o At ct t A1 c1 zs wi) (fun _ i _ => o.ps.length - (intOf i).toNat)
          case atStart => exact ⟨0, A1, c1, zs2, Nat.zero_le _, rfl, rfl, (List.append_nil _).symm, by omega, HW.out⟩
          case round =>
            clear HW
            obtain ⟨k, A1, c1, zs, hk, rfl, rfl, hzs, hzl, hw⟩ := hrel
            have HW := hide hw
            have x0 := HW.out.bx.cell 0
            simp only [List.getElem?_toArray, List.getElem?_cons_zero, List.getElem?_cons_succ] at x0
            have hxl := HW.out.bx.lt
            by_cases hlt : k < o.ps.length
            · obtain ⟨b, off, hA, hbb, hc⟩ := HR.out.1.1.row secC_len (by decide) hlt
              have hc5 := hc 5 _ rfl
              have HKC := hide (fun V (hV : Below w.heap.size w V) => (show V.cell? ⟨b, off + k * 6 + 5, none⟩ = some (.slice (o.ps[k]).F (o.ps[k]).fs.length (o.ps[k]).fc) from (hV.cell (p := ⟨b, off + k * 6 + 5, none⟩) hbb).trans hc5))
              have HZ := hide (show zs2 ++ ((o.ps.take (k + 1)).map SV.d).flatMap (fun s => s.fs.flatMap fixB) = zs ++ (o.ps[k]).fs.flatMap fixB from by
                rw [take_succ hlt, List.map_append, List.flatMap_append, ← List.append_assoc, ← hzs]
                simp [SV.d])
              have hlim := H6.out _ (List.getElem_mem hlt)
              obtain ⟨hl6, hl48⟩ := hlim
              have HFR := hide (HR.out.1.2 _ (List.getElem_mem hlt)).2
              have HPL := hide (HFP.out _ (List.getElem_mem hlt))
              clear hw hzs hc hc5
              rw [hA] at x0
              have HA := hide hA
              clear hA
              generalize o.ps[k] = p at *
              go_wp2_with fail
              clear x0 hxl
              generalize zs = zs3 at *
              go_loopw [4, 10] (fun s i wi => ∃ (j : Nat) (A1 : Option Addr) (c1 : Nat) (zs : List Int), j ≤ p.fs.length ∧ s = .slice A1 zs.length c1 ∧ i = .int .i64 j ∧ zs = zs3 ++ (p.fs.take j).flatMap fixB ∧ zs.length ≤ 130 + 30 * k + 5 * j ∧ WI w o At ct t A1 c1 zs wi) (fun _ i _ => p.fs.length - (intOf i).toNat)
              case atStart => exact ⟨0, A1, c1, zs3, Nat.zero_le _, rfl, rfl, (List.append_nil _).symm, by omega, HW.out⟩
              case round =>
                clear HW
                obtain ⟨j, A1, c1, zs, hj, rfl, rfl, hzs, hzl3, hw⟩ := hrel
                have HW := hide hw
                have hc5 := HKC.out _ hw.b
                have x0 := HW.out.bx.cell 0
                simp only [List.getElem?_toArray, List.getElem?_cons_zero, List.getElem?_cons_succ] at x0
                have hxl := HW.out.bx.lt
                rw [HA.out] at x0
                by_cases hlj : j < p.fs.length
                · obtain ⟨b2, off2, hA, hbb2, hc⟩ := (HFR.out.below hw.b).row fixupC_len (by decide) hlj
                  have hc0 := hc 0 _ rfl
                  have hc1 := hc 1 _ rfl
                  have hc2 := hc 2 _ rfl
                  have hc3 := hc 3 _ rfl
                  simp only [Nat.add_zero] at hc0
                  have HZ2 := hide (show zs3 ++ (p.fs.take (j + 1)).flatMap fixB = zs ++ fixB p.fs[j] from by
                    rw [take_succ hlj, List.flatMap_append, ← List.append_assoc, ← hzs]
                    simp)
                  have hpl := HPL.out _ (List.getElem_mem hlj)
                  have hfl := fixB_le p.fs[j]
                  clear hw hzs hc
                  rw [hA] at hc5
                  have HA2 := hide hA
                  clear hA
                  generalize p.fs[j] = z at *
                  obtain ⟨z1, z2, z3, z4⟩ := z
                  simp only at hc0 hc1 hc2 hc3 hpl
                  have hwr : IntKind.i64.wrap (z4 + 1000) = z4 + 1000 := IntWalk.i64_in _ (by omega)
                  clear hpl
                  have B1 : Below wr.heap.size wr (wr.alloc (.cells #[.int .i64 z1, .int .i64 z2, .int .i64 z3, .int .i64 z4] 77)) := (by repeat (first | exact Below.refl _ _ | with_reducible assumption | (refine Below.drew ?_) | (refine Below.drewN ?_ _) | (refine Below.alloc ?_ (by simp; try omega) _) | (refine Below.setCell ?_ (by simp; try omega) _)))
                  have HS := hide (Box.new wr 77 #[.int .i64 z1, .int .i64 z2, .int .i64 z3, .int .i64 z4])
                  replace HW := hide (HW.out.call B1)
                  clear B1
                  go_wp2_with fail
                  clear hc0 hc1 hc2 hc3 hc5 x0 hxl
                  generalize wr.alloc (.cells #[.int .i64 z1, .int .i64 z2, .int .i64 z3, .int .i64 z4] 77) = ws at *
                  generalize wr.heap.size = S at *
                  have x0 := HS.out.cell 0
                  have x1 := HS.out.cell 1
                  have x2 := HS.out.cell 2
                  have x3 := HS.out.cell 3
                  simp only [List.getElem?_toArray, List.getElem?_cons_zero, List.getElem?_cons_succ] at x0 x1 x2 x3
                  have hxl := HS.out.lt
                  have Z0 : ws.cell? ⟨S, 0, none⟩ = some (.int .i64 z1) ∧ ws.cell? ⟨S, 1, none⟩ = some (.int .i64 z2) ∧ ws.cell? ⟨S, 2, none⟩ = some (.int .i64 z3) ∧ ws.cell? ⟨S, 3, none⟩ = some (.int .i64 z4) := ⟨x0, x1, x2, x3⟩
                  clear x0 x1 x2 x3 hxl
                  refine Reg.startT (fun W => W.cell? ⟨S, 0, none⟩ = some (.int .i64 z1) ∧ W.cell? ⟨S, 1, none⟩ = some (.int .i64 z2) ∧ W.cell? ⟨S, 2, none⟩ = some (.int .i64 z3) ∧ W.cell? ⟨S, 3, none⟩ = some (.int .i64 z4)) (fun j => j == 17) (by kernel_rfl) ?_
                  replace HS := hide (show Box ws.drew S 77 #[.int .i64 z1, .int .i64 z2, .int .i64 z3, .int .i64 z4] from HS.out.call (below_dr (Below.refl _ _)))
                  replace HW := hide (HW.out.call (below_dr (Below.refl _ _)))
                  have hHeld : ws.drew.cell? ⟨S, 0, none⟩ = some (.int .i64 z1) ∧ ws.drew.cell? ⟨S, 1, none⟩ = some (.int .i64 z2) ∧ ws.drew.cell? ⟨S, 2, none⟩ = some (.int .i64 z3) ∧ ws.drew.cell? ⟨S, 3, none⟩ = some (.int .i64 z4) := Z0
                  clear Z0
                  generalize ws.drew = w9 at *
                  refine Reg.takeT (i := 0) (v := ?_) rfl (by kernel_rfl) (by kernel_rfl) (by kernel_rfl) (by kernel_rfl) (fun _ _ _ h => h) (Or.inl ⟨by rfl, ?_⟩) (by assumption) ?_
                  rotate_left 1
                  focus (intro w hSw; (try dsimp only at hSw); go_simp; (try with_reducible rfl))
                  try simp only [List.getElem_toArray, List.getElem_cons_succ, List.getElem_cons_zero, Act.put, List.setIfInBounds_toArray, List.set_cons_zero, List.set_cons_succ]
                  refine Reg.takeT (i := 1) (v := ?_) rfl (by kernel_rfl) (by kernel_rfl) (by kernel_rfl) (by kernel_rfl) (fun _ _ _ h => h) (Or.inl ⟨by rfl, ?_⟩) (by assumption) ?_
                  rotate_left 1
                  focus (intro w hSw; (try dsimp only at hSw); go_simp; (try with_reducible rfl))
                  try simp only [List.getElem_toArray, List.getElem_cons_succ, List.getElem_cons_zero, Act.put, List.setIfInBounds_toArray, List.set_cons_zero, List.set_cons_succ]
                  refine Reg.takeT (i := 2) (v := ?_) rfl (by kernel_rfl) (by kernel_rfl) (by kernel_rfl) (by kernel_rfl) (fun _ _ _ h => h) (Or.inl ⟨by rfl, ?_⟩) (by assumption) ?_
                  rotate_left 1
                  focus (intro w hSw; (try dsimp only at hSw); go_simp; (try with_reducible rfl))
                  try simp only [List.getElem_toArray, List.getElem_cons_succ, List.getElem_cons_zero, Act.put, List.setIfInBounds_toArray, List.set_cons_zero, List.set_cons_succ]
                  refine Reg.takeT (i := 3) (v := ?_) rfl (by kernel_rfl) (by kernel_rfl) (by kernel_rfl) (by kernel_rfl) (fun _ _ _ h => h) (Or.inl ⟨by rfl, ?_⟩) (by assumption) ?_
                  rotate_left 1
                  focus (intro w hSw; (try dsimp only at hSw); go_simp; (try with_reducible rfl))
                  try simp only [List.getElem_toArray, List.getElem_cons_succ, List.getElem_cons_zero, Act.put, List.setIfInBounds_toArray, List.set_cons_zero, List.set_cons_succ]
                  refine Reg.takeT (i := 4) (v := ?_) rfl (by kernel_rfl) (by kernel_rfl) (by kernel_rfl) (by kernel_rfl) (fun _ _ _ h => h) (Or.inl ⟨by rfl, ?_⟩) (by assumption) ?_
                  rotate_left 1
                  focus (intro w hSw; (try dsimp only at hSw); go_simp; (try with_reducible rfl))
                  try simp only [List.getElem_toArray, List.getElem_cons_succ, List.getElem_cons_zero, Act.put, List.setIfInBounds_toArray, List.set_cons_zero, List.set_cons_succ]
                  refine Reg.takeT (i := 5) (v := ?_) rfl (by kernel_rfl) (by kernel_rfl) (by kernel_rfl) (by kernel_rfl) (fun _ _ _ h => h) (Or.inl ⟨by rfl, ?_⟩) (by assumption) ?_
                  rotate_left 1
                  focus (intro w hSw; (try dsimp only at hSw); go_simp; (try with_reducible rfl))
                  try simp only [List.getElem_toArray, List.getElem_cons_succ, List.getElem_cons_zero, Act.put, List.setIfInBounds_toArray, List.set_cons_zero, List.set_cons_succ]
                  refine Reg.takeT (i := 6) (v := ?_) rfl (by kernel_rfl) (by kernel_rfl) (by kernel_rfl) (by kernel_rfl) (fun _ _ _ h => h) (Or.inl ⟨by rfl, ?_⟩) (by assumption) ?_
                  rotate_left 1
                  focus (intro w hSw; (try dsimp only at hSw); go_simp; (try with_reducible rfl))
                  try simp only [List.getElem_toArray, List.getElem_cons_succ, List.getElem_cons_zero, Act.put, List.setIfInBounds_toArray, List.set_cons_zero, List.set_cons_succ]
                  refine Reg.takeT (i := 7) (v := ?_) rfl (by kernel_rfl) (by kernel_rfl) (by kernel_rfl) (by kernel_rfl) (fun _ _ _ h => h) (Or.inl ⟨by rfl, ?_⟩) (by assumption) ?_
                  rotate_left 1
                  focus (intro w hSw; (try dsimp only at hSw); go_simp; (try with_reducible rfl))
                  try simp only [List.getElem_toArray, List.getElem_cons_succ, List.getElem_cons_zero, Act.put, List.setIfInBounds_toArray, List.set_cons_zero, List.set_cons_succ]
                  refine Reg.takeT (i := 8) (v := ?_) rfl (by kernel_rfl) (by kernel_rfl) (by kernel_rfl) (by kernel_rfl) (fun _ _ _ h => h) (Or.inl ⟨by rfl, ?_⟩) (by assumption) ?_
                  rotate_left 1
                  focus (intro w hSw; (try dsimp only at hSw); go_simp; (try with_reducible rfl))
                  try simp only [List.getElem_toArray, List.getElem_cons_succ, List.getElem_cons_zero, Act.put, List.setIfInBounds_toArray, List.set_cons_zero, List.set_cons_succ]
                  refine Reg.takeT (i := 9) (v := ?_) rfl (by kernel_rfl) (by kernel_rfl) (by kernel_rfl) (by kernel_rfl) (fun _ _ _ h => h) (Or.inl ⟨by rfl, ?_⟩) (by assumption) ?_
                  rotate_left 1
                  focus (intro w hSw; (try dsimp only at hSw); go_simp; (try with_reducible rfl))
                  try simp only [List.getElem_toArray, List.getElem_cons_succ, List.getElem_cons_zero, Act.put, List.setIfInBounds_toArray, List.set_cons_zero, List.set_cons_succ]
                  refine Reg.takeT (i := 12) (v := ?_) rfl (by kernel_rfl) (by kernel_rfl) (by kernel_rfl) (by kernel_rfl) (fun _ _ _ h => h) (Or.inl ⟨by rfl, ?_⟩) (by assumption) ?_
                  rotate_left 1
                  focus (intro w hSw; (try dsimp only at hSw); go_simp; (try with_reducible rfl))
                  try simp only [List.getElem_toArray, List.getElem_cons_succ, List.getElem_cons_zero, Act.put, List.setIfInBounds_toArray, List.set_cons_zero, List.set_cons_succ]
                  refine Reg.takeT (i := 13) (v := ?_) rfl (by kernel_rfl) (by kernel_rfl) (by kernel_rfl) (by kernel_rfl) (fun _ _ _ h => h) (Or.inl ⟨by rfl, ?_⟩) (by assumption) ?_
                  rotate_left 1
                  focus (intro w hSw; (try dsimp only at hSw); go_simp; (try with_reducible rfl))
                  try simp only [List.getElem_toArray, List.getElem_cons_succ, List.getElem_cons_zero, Act.put, List.setIfInBounds_toArray, List.set_cons_zero, List.set_cons_succ]
                  refine Reg.takeT (i := 14) (v := ?_) rfl (by kernel_rfl) (by kernel_rfl) (by kernel_rfl) (by kernel_rfl) (fun _ _ _ h => h) (Or.inl ⟨by rfl, ?_⟩) (by assumption) ?_
                  rotate_left 1
                  focus (intro w hSw; (try dsimp only at hSw); go_simp; (try with_reducible rfl))
                  try simp only [List.getElem_toArray, List.getElem_cons_succ, List.getElem_cons_zero, Act.put, List.setIfInBounds_toArray, List.set_cons_zero, List.set_cons_succ]
                  clear hHeld
                  refine Reg.oneT (i := 10) rfl (by kernel_rfl) (fun K hK => ?_)
                  go_simp
                  have b14 : Below w9.heap.size w9 (w9.alloc (.cells #[.int .u8 (IntKind.u8.wrap z1), .int .u8 (IntKind.u8.wrap z2), .int .u8 (IntKind.u8.wrap z3)] 5)) := (by repeat (first | exact Below.refl _ _ | with_reducible assumption | (refine Below.drew ?_) | (refine Below.drewN ?_ _) | (refine Below.alloc ?_ (by simp; try omega) _) | (refine Below.setCell ?_ (by simp; try omega) _)))
                  replace HS := hide (HS.out.call b14)
                  replace HW := hide (HW.out.call b14)
                  clear b14
                  have HLIT := hide (rd_lit w9 #[.int .u8 (IntKind.u8.wrap z1), .int .u8 (IntKind.u8.wrap z2), .int .u8 (IntKind.u8.wrap z3)] 5 _ rfl)
                  generalize hxs : ([IntKind.u8.wrap z1, IntKind.u8.wrap z2, IntKind.u8.wrap z3] : List Int) = xs at *
                  have hxl : xs.length = 3 := by rw [← hxs]; rfl
                  have HXS := hide (And.intro hxs (show ([.int .u8 (IntKind.u8.wrap z1), .int .u8 (IntKind.u8.wrap z2), .int .u8 (IntKind.u8.wrap z3)] : List Value) = ints .u8 xs from by rw [← hxs]; rfl))
                  clear hxs
                  generalize w9.alloc (.cells #[.int .u8 (IntKind.u8.wrap z1), .int .u8 (IntKind.u8.wrap z2), .int .u8 (IntKind.u8.wrap z3)] 5) = w11 at *
                  generalize w9.heap.size = L at *
                  refine hK.out _ _ ⟨by simpa using HS.out.cell 0, by simpa using HS.out.cell 1, by simpa using HS.out.cell 2, by simpa using HS.out.cell 3⟩ ?_
                  clear hK K
                  try simp only [List.getElem_toArray, List.getElem_cons_succ, List.getElem_cons_zero, Act.put, List.setIfInBounds_toArray, List.set_cons_zero, List.set_cons_succ]
                  replace HLIT := hide (show Rd w11 (L + 1) (some ⟨L, 0, none⟩) (ints .u8 xs) from by
                    have h := HLIT.out
                    simp only at h
                    rw [← HXS.out.2]
                    exact h)
                  refine Reg.oneT (i := 11) rfl (by kernel_rfl) (fun K hK => ?_)
                  refine step_app (by rfl) _ _ 22 rfl 5 i0 (.int .u8 0) 1 1 Try.underlying22 HI.out.1 HI.out.2.1 HI.out.2.2.1 HI.out.2.2.2 rfl (by decide) w.heap.size A1 zs.length c1 (ints .u8 zs) (by rfl) HW.out.row HW.out.b.size (some ⟨L, 0, none⟩) 3 3 (ints .u8 xs) (by rfl) HLIT.out (by simp [hxl]) (fun h => by cases h) oneI (by unfold maxLen; omega) (by omega) ?_
                  intro A9 n9 c9 w12 hn o12 g12 k12
                  replace HS := hide (HS.out.grown g12 (HW.out.row.box HS.out (by decide)))
                  replace HW := hide (HW.out.add (by rw [hxl]; exact hn) o12 g12 k12)
                  have hn' : n9 = (zs ++ xs).length := by rw [hn, List.length_append, hxl]
                  have hzl9 : (zs ++ xs).length ≤ 133 + 30 * k + 5 * j := by rw [List.length_append, hxl]; omega
                  subst hn'
                  clear hn o12 g12 k12 HLIT
                  generalize hq2 : zs ++ xs = us at *
                  have HQ2 := hide hq2
                  clear hq2
                  refine hK.out _ _ ⟨by simpa using HS.out.cell 0, by simpa using HS.out.cell 1, by simpa using HS.out.cell 2, by simpa using HS.out.cell 3⟩ ?_
                  clear hK K
                  try simp only [List.getElem_toArray, List.getElem_cons_succ, List.getElem_cons_zero, Act.put, List.setIfInBounds_toArray, List.set_cons_zero, List.set_cons_succ]
                  refine Reg.oneT (i := 15) rfl (by kernel_rfl) (fun K hK => ?_)
                  go_simp
                  refine (putNumberS_any (z4 + 1000) 2 w12).mono ?_
                  rintro e w10 ⟨A10, c10, rfl, o10, b10⟩
                  have HO := hide (Row.own o10)
                  replace HS := hide (HS.out.call b10)
                  replace HW := hide (HW.out.call b10)
                  have hvl := pnum_le (z4 + 1000)
                  clear o10 b10
                  generalize hv : pnum (z4 + 1000) 2 = vs at *
                  have HV := hide hv
                  clear hv
                  have HVL := hide (show (ints .u8 vs).length = vs.length * 1 from by simp)
                  refine hK.out _ _ ⟨by simpa using HS.out.cell 0, by simpa using HS.out.cell 1, by simpa using HS.out.cell 2, by simpa using HS.out.cell 3⟩ ?_
                  clear hK K
                  try simp only [List.getElem_toArray, List.getElem_cons_succ, List.getElem_cons_zero, Act.put, List.setIfInBounds_toArray, List.set_cons_zero, List.set_cons_succ]
                  refine Reg.oneT (i := 16) rfl (by kernel_rfl) (fun K hK => ?_)
                  refine step_app (by rfl) _ _ 22 rfl 5 i0 (.int .u8 0) 1 1 Try.underlying22 HI.out.1 HI.out.2.1 HI.out.2.2.1 HI.out.2.2.2 rfl (by decide) w.heap.size A9 us.length c9 (ints .u8 us) (by rfl) HW.out.row HW.out.b.size A10 vs.length c10 (ints .u8 vs) (by rfl) HO.out.rd HVL.out HO.out.nil oneI (by unfold maxLen; omega) (by omega) ?_
                  intro A11 n11 c11 w11b hn11 o11 g11 k11
                  replace HS := hide (HS.out.grown g11 (HW.out.row.box HS.out (by decide)))
                  replace HW := hide (HW.out.add hn11 o11 g11 k11)
                  have hn' : n11 = (us ++ vs).length := by rw [hn11, List.length_append]
                  have hl' : (us ++ vs).length ≤ 130 + 30 * k + 5 * (j + 1) := by rw [List.length_append]; omega
                  subst hn'
                  clear hn11 o11 g11 k11 HO HVL
                  refine hK.out _ _ ⟨by simpa using HS.out.cell 0, by simpa using HS.out.cell 1, by simpa using HS.out.cell 2, by simpa using HS.out.cell 3⟩ ?_
                  clear hK K
                  try simp only [List.getElem_toArray, List.getElem_cons_succ, List.getElem_cons_zero, Act.put, List.setIfInBounds_toArray, List.set_cons_zero, List.set_cons_succ]
                  have hHeld : w11b.cell? ⟨S, 0, none⟩ = some (.int .i64 z1) ∧ w11b.cell? ⟨S, 1, none⟩ = some (.int .i64 z2) ∧ w11b.cell? ⟨S, 2, none⟩ = some (.int .i64 z3) ∧ w11b.cell? ⟨S, 3, none⟩ = some (.int .i64 z4) := ⟨by simpa using HS.out.cell 0, by simpa using HS.out.cell 1, by simpa using HS.out.cell 2, by simpa using HS.out.cell 3⟩
                  refine Reg.lastT (i := 17) rfl (by kernel_rfl) (by rfl) (fun K hK => ?_)
                  go_simp
                  refine hK.out _ _ ?_
                  clear hK K
                  try simp only [List.getElem_toArray, List.getElem_cons_succ, List.getElem_cons_zero, Act.put, List.setIfInBounds_toArray, List.set_cons_zero, List.set_cons_succ]
                  refine Reg.doneT (by kernel_rfl) ?_ _
                  have HF := hide (show us ++ vs = zs ++ fixB (z1, z2, z3, z4) from by
                    rw [← HQ2.out]
                    unfold fixB b8
                    show zs ++ xs ++ vs = zs ++ ([IntKind.u8.wrap z1, IntKind.u8.wrap z2, IntKind.u8.wrap z3] ++ pnum (z4 + 1000) 2)
                    rw [HXS.out.1, HV.out]
                    simp only [List.append_assoc])
                  go_wp2_with fail
                  exact ⟨⟨j + 1, A11, c11, us ++ vs, by omega, by first | rfl | rw [List.length_append], by go_num, by rw [HZ2.out, HF.out], hl', HW.out⟩, by simp [intOf]; omega⟩
                · have hje : j = p.fs.length := by omega
                  subst hje
                  rw [List.take_length] at hzs
                  have HF := hide (show zs2 ++ ((o.ps.take (k + 1)).map SV.d).flatMap (fun s => s.fs.flatMap fixB) = zs from by rw [HZ.out, hzs])
                  have hzl4 : zs.length ≤ 130 + 30 * (k + 1) := by omega
                  clear hw hzs
                  go_wp2_with fail
                  exact ⟨⟨k + 1, A1, c1, zs, by omega, rfl, by go_num, HF.out.symm, hzl4, HW.out⟩, by simp [intOf]; omega⟩
            · have hke : k = o.ps.length := by omega
              subst hke
              rw [List.take_length] at hzs
              have hz3 : zs.length ≤ 370 := by omega
              have HZS3 := hide hzs
              clear hw hzs hzl hlt hk
              have HTL := hide (show (ints .u8 t).length = t.length * 1 from by simp)
              have HTC := hide HW.out.tb.nil
              go_wp2_with (at_builtin; refine wpList_app wr rfl (.tmp 144) (.tmp 145) 22 rfl 5 i0 (.int .u8 0) 1 1 Try.underlying22 HI.out.1 HI.out.2.1 HI.out.2.2.1 HI.out.2.2.2 rfl (by decide) w.heap.size A1 zs.length c1 (ints .u8 zs) rfl HW.out.row HW.out.b.size At t.length ct (ints .u8 t) rfl HW.out.tb.rd HTL.out HTC.out oneI (by unfold maxLen; omega) (by omega) ?_)
              intro A8 n8 c8 w8 hn8 o8 g8 k8
              replace HW := hide (HW.out.add hn8 o8 g8 k8)
              have hn8' : n8 = (zs ++ t).length := by rw [hn8, List.length_append]
              have hz4 : (zs ++ t).length ≤ 551 := by rw [List.length_append]; omega
              subst hn8'
              clear hn8 o8 g8 k8
              have HZS4 := hide (show zs ++ t = zs2 ++ (o.ps.map SV.d).flatMap (fun s => s.fs.flatMap fixB) ++ t from by rw [HZS3.out])
              generalize zs ++ t = zs4 at *
              go_wp2_with fail
              clear x0 hxl
              go_loopw [4, 12] (fun s i wi => ∃ (k : Nat) (A1 : Option Addr) (c1 : Nat) (zs : List Int), k ≤ o.ps.length ∧ s = .slice A1 zs.length c1 ∧ i = .int .i64 k ∧ zs = zs4 ++ ((o.ps.take k).map SV.d).flatMap (fun s => s.zs) ∧ zs.length ≤ 551 + 48 * k ∧ WI w o At ct t A1 c1 zs wi) (fun _ i _ => o.ps.length - (intOf i).toNat)
              case atStart => exact ⟨0, A8, c8, zs4, Nat.zero_le _, rfl, rfl, (List.append_nil _).symm, by omega, HW.out⟩
              case round =>
                clear HW
                obtain ⟨k, A1, c1, zs, hk, rfl, rfl, hzs, hzl, hw⟩ := hrel
                have HW := hide hw
                have x0 := HW.out.bx.cell 0
                simp only [List.getElem?_toArray, List.getElem?_cons_zero, List.getElem?_cons_succ] at x0
                have hxl := HW.out.bx.lt
                by_cases hlt : k < o.ps.length
                · obtain ⟨b, off, hA, hbb, hc⟩ := (HR.out.1.1.below hw.b).row secC_len (by decide) hlt
                  have hc0 := hc 0 _ rfl
                  have hc1 := hc 1 _ rfl
                  have hc2 := hc 2 _ rfl
                  have hc3 := hc 3 _ rfl
                  have hc4 := hc 4 _ rfl
                  have hc5 := hc 5 _ rfl
                  simp only [Nat.add_zero] at hc0
                  have HZ := hide (show zs4 ++ ((o.ps.take (k + 1)).map SV.d).flatMap (fun s => s.zs) = zs ++ (o.ps[k]).zs from by
                    rw [take_succ hlt, List.map_append, List.flatMap_append, ← List.append_assoc, ← hzs]
                    simp [SV.d])
                  have hlim := H6.out _ (List.getElem_mem hlt)
                  obtain ⟨hl6, hl48⟩ := hlim
                  have hsr := (HR.out.1.2 _ (List.getElem_mem hlt)).1.below hw.b
                  have HNP := hide (HN.out _ (List.getElem_mem hlt))
                  clear hw hzs hc
                  rw [hA] at x0
                  have HA := hide hA
                  clear hA
                  generalize o.ps[k] = p at *
                  have HSR := hide (show Rd wr w.heap.size p.A (ints .u8 p.zs) from hsr)
                  have HSL := hide (show (ints .u8 p.zs).length = p.zs.length * 1 from by simp)
                  clear hsr
                  go_wp2_with (at_builtin; refine wpList_app wr rfl (.tmp 154) (.tmp 160) 22 rfl 5 i0 (.int .u8 0) 1 1 Try.underlying22 HI.out.1 HI.out.2.1 HI.out.2.2.1 HI.out.2.2.2 rfl (by decide) w.heap.size A1 zs.length c1 (ints .u8 zs) rfl HW.out.row HW.out.b.size p.A p.zs.length p.c (ints .u8 p.zs) rfl HSR.out HSL.out HNP.out oneI (by unfold maxLen; omega) (by omega) ?_)
                  intro A9 n9 c9 w9 hn9 o9 g9 k9
                  replace HW := hide (HW.out.add hn9 o9 g9 k9)
                  have hn9' : n9 = (zs ++ p.zs).length := by rw [hn9, List.length_append]
                  have hzl9 : (zs ++ p.zs).length ≤ 551 + 48 * (k + 1) := by rw [List.length_append]; omega
                  subst hn9'
                  clear hn9 o9 g9 k9 x0 hxl hc0 hc1 hc2 hc3 hc4 hc5
                  go_wp2_with fail
                  exact ⟨⟨k + 1, A9, c9, zs ++ p.zs, by omega, by first | rfl | rw [List.length_append], by go_num, HZ.out.symm, hzl9, HW.out⟩, by simp [intOf]; omega⟩
                · have hke : k = o.ps.length := by omega
                  subst hke
                  rw [List.take_length] at hzs
                  have HF := hide (show writeB o.d = zs from by
                    have e1 : o.d.ss.length = o.ps.length := by simp [OV.d]
                    have e2 : o.d.ys = o.ys := rfl
                    have e3 : o.d.ss = o.ps.map SV.d := rfl
                    rw [hzs, HZS4.out, HZS2.out, HZS.out]
                    unfold writeB
                    rw [HTD.out, e1, e2, HFN.out, HHD.out, e3])
                  clear hw hzs hzl
                  go_wp2_with fail
                  go_ret
                  rw [HF.out]
                  exact ⟨A1, c1, rfl, HW.out.row, HW.out.b⟩
end Go.Proofs.Ytmglgjchemecjaa.CWriteBS
/- l7Same: the reference's look whether two rows of bytes are the same. -/
namespace Go.Proofs.Ytmglgjchemecjaa.CSame7
set_option maxRecDepth 200000
open Go.ChangeShapes Go.WideShapes Go.ChangeAt Go.RowKit Kit CCode CFixups CSymbols PObj BObj CGlobalOf BStore BList PLink CSorted CNames CNameTab CTable CPlOf
theorem ext_take {xs ys : List Int} {k : Nat} (hl : xs.length = ys.length) (h : xs.take k = ys.take k) (hk : k < xs.length) (hk2 : k < ys.length) (he : xs[k] = ys[k]) : xs.take (k + 1) = ys.take (k + 1) := by
  rw [take_succ hk, take_succ hk2, h, he]
theorem l7Same_any (A A' : Option Addr) (xs ys : List Int) (c c' B B' : Nat) (w : World) (hr : Rd w B A (ints .u8 xs)) (hr' : Rd w B' A' (ints .u8 ys)) (hB : B ≤ w.heap.size) (hB' : B' ≤ w.heap.size) (hm : xs.length ≤ 1048576) (hm' : ys.length ≤ 1048576) :
    Calls Try.prog 89 #[.slice A xs.length c, .slice A' ys.length c'] w (Ret (.bool (decide (xs = ys))) w) := by
  have HR := hide (hr.more hB)
  have HR' := hide (hr'.more hB')
  clear hr hr' hB hB'
  by_cases hl : xs.length = ys.length
  · have hne : (((xs.length : Nat) : Int) == ys.length) = true := by rw [hl]; simp
    go_enter Try.func89, Try.ntmps89
    go_wp2_with fail
    go_loopw [5] (fun i wi => ∃ k : Nat, k ≤ xs.length ∧ i = .int .i64 k ∧ xs.take k = ys.take k ∧ Below w.heap.size w wi) (fun i _ => xs.length - (intOf i).toNat)
    case atStart => exact ⟨0, Nat.zero_le _, rfl, by simp, Below.refl _ _⟩
    case round =>
      obtain ⟨k, hk, rfl, ht, hb⟩ := hrel
      have HB := hide hb
      by_cases hlt : k < xs.length
      · have hlt2 : k < ys.length := by omega
        obtain ⟨b, off, hA, _, hc⟩ := (HR.out.below hb).int hlt
        obtain ⟨b', off', hA', _, hc'⟩ := (HR'.out.below hb).int hlt2
        have HS := hide (fun he => ext_take hl ht hlt hlt2 he)
        have HD := hide (show xs[k] ≠ ys[k] → xs ≠ ys from fun he e => he (by subst e; rfl))
        rw [hA, hA']
        clear ht hb hA hA'
        generalize xs[k] = x at *
        generalize ys[k] = y at *
        by_cases hxy : x = y
        · subst hxy
          have HT := hide (HS.out rfl)
          clear HS HD
          go_wp2_with fail
          go_quiet (fail)
          go_wp2_with fail
          refine ⟨⟨k + 1, by omega, by go_num, HT.out, by have h := HB.out; exact (by (repeat (first | with_reducible assumption | with_reducible exact Below.refl _ _ | with_reducible apply below_al | with_reducible apply below_dr | with_reducible apply below_dn)); done)⟩, by simp [intOf]; omega⟩
        · have hxy2 : (x == y) = false := beq_eq_false_iff_ne.2 hxy
          have HV := hide (show decide (xs = ys) = false from decide_eq_false (HD.out hxy))
          clear HS HD
          go_wp2_with fail
          go_quiet (fail)
          go_wp2_with fail
          go_ret
          exact ⟨by rw [HV.out]; rfl, by have h := HB.out; exact (by (repeat (first | with_reducible assumption | with_reducible exact Below.refl _ _ | with_reducible apply below_al | with_reducible apply below_dr | with_reducible apply below_dn)); done)⟩
      · have hke : k = xs.length := by omega
        have HV := hide (show decide (xs = ys) = true from decide_eq_true (by
          rw [hke, List.take_length] at ht
          rw [ht, hl, List.take_length]))
        clear ht hb
        go_wp2_with fail
        go_ret
        exact ⟨by rw [HV.out]; rfl, HB.out⟩
  · have hne : (((xs.length : Nat) : Int) == ys.length) = false := beq_eq_false_iff_ne.2 (by omega)
    have hv : decide (xs = ys) = false := decide_eq_false fun e => hl (by rw [e])
    go_enter Try.func89, Try.ntmps89
    go_wp2_with fail
    go_ret
    exact ⟨by rw [hv]; rfl, Below.refl _ _⟩
end Go.Proofs.Ytmglgjchemecjaa.CSame7
/- SameObject on two objects: the reference's. -/
namespace Go.Proofs.Ytmglgjchemecjaa.CSameObjS
set_option maxRecDepth 200000
open Go.ChangeShapes Go.WideShapes Go.ChangeAt Go.RowKit Kit CCode CName CNumber CFixups CSymbols PObj BObj PValid PWarn PClear CSecValid CObjValid CObjValidS BStore CMarkRows BList PLink PLinkL CSorted CNames CNameTab CTable CTableOf CPlOf CHead CWriteO CWriteB CSameObj
theorem flat_len {α : Type} {l : List α} {f : α → List Int} {n : Nat} (h : ∀ a ∈ l, (f a).length ≤ n) : (l.flatMap f).length ≤ n * l.length := by
  induction l with
  | nil => simp
  | cons x xs ih =>
    have h1 := h x List.mem_cons_self
    have h2 := ih fun a ha => h a (List.mem_cons_of_mem _ ha)
    rw [List.flatMap_cons, List.length_append, List.length_cons, Nat.mul_add]
    omega
theorem writeB_len {d : OD} (hok : objOk d = true) : (writeB d).length ≤ 1048576 := by
  have h := obj_all hok
  have hl : (tabD d).length ≤ 181 := by
    obtain ⟨g8, g12, gs, gy, _⟩ := (obj_iff d).1 hok
    have hno : namesOk (namesD d) = true := by
      unfold namesOk namesD
      simp only [Bool.and_eq_true, decide_eq_true_eq, List.all_eq_true]
      refine ⟨by simp; omega, fun x hx => ?_⟩
      rcases List.mem_append.1 hx with hx | hx
      · obtain ⟨s, hs, rfl⟩ := List.mem_map.1 hx
        have := gs s hs
        simp only [secOk, PValid.headOk, Bool.and_eq_true] at this
        exact this.1.1.1
      · obtain ⟨y, hy, rfl⟩ := List.mem_map.1 hx
        have := gy y hy
        simp only [symOk, bindOk, Bool.and_eq_true] at this
        exact this.1.1
    have hall : ∀ x ∈ srtN (namesD d), x.size ≤ 8 := fun x hx => by
      rw [namesOk, Bool.and_eq_true, List.all_eq_true] at hno
      exact name_size (hno.2 x (srt_mem hx))
    have e : tabD d = tabL (srtN (namesD d)) := by unfold tabD tabN; rw [hno]; rfl
    rw [e]
    have h1 := (tab_len hall).2
    have h2 := srt_len_le (namesD d)
    have h3 : (namesD d).length = d.ss.length + d.ys.length := by simp [namesD]
    omega
  unfold writeB
  have q1 : (d.ss.flatMap (secB (tabD d))).length ≤ 6 * d.ss.length := flat_len fun s _ => by
    have := pnum_le (plOf (tabD d) s.nm)
    simp only [secB, List.length_append, List.length_cons, List.length_nil]
    omega
  have q2 : (d.ys.flatMap (symB (tabD d))).length ≤ 6 * d.ys.length := flat_len fun y _ => by
    have := pnum_le (plOf (tabD d) y.1)
    have := pnum_le y.2.2.2
    simp only [symB, List.length_append, List.length_cons, List.length_nil]
    omega
  have q3 : (d.ss.flatMap (fun s => s.fs.flatMap fixB)).length ≤ 30 * d.ss.length := flat_len fun s hs => by
    have a := flat_len (l := s.fs) (f := fixB) (n := 5) fun f _ => fixB_le f
    have := (h.2.2 s hs).1
    omega
  have q4 : (d.ss.flatMap (fun s => s.zs)).length ≤ 48 * d.ss.length := flat_len fun s hs => (h.2.2 s hs).2.1
  have q5 : (headB d.ss.length d.ys.length (fixN d.ss) (tabD d).length).length = 10 := by
    unfold headB
    simp [putL_len]
  have := h.1
  have := h.2.1
  simp only [List.length_append]
  omega
set_option maxHeartbeats 4000000 in
theorem sameObjectS_any (o1 o2 : OV) (w : World) (hr1 : RdO w w.heap.size o1) (hr2 : RdO w w.heap.size o2) (hf1 : Fit o1) (hf2 : Fit o2)
    (hn1 : ∀ p ∈ o1.ps, p.A = none → p.c = 0) (hn2 : ∀ p ∈ o2.ps, p.A = none → p.c = 0) (hz1 : ∀ p ∈ o1.ps, InR 0 255 p.zs) (hz2 : ∀ p ∈ o2.ps, InR 0 255 p.zs) :
    Calls Try.prog 35 #[.agg #[.slice o1.A o1.ps.length o1.c, .slice o1.Y o1.ys.length o1.yc], .agg #[.slice o2.A o2.ps.length o2.c, .slice o2.Y o2.ys.length o2.yc]] w (Ret (.bool (sameB o1.d o2.d)) w) := by
  have HR1 := hide hr1
  have HR2 := hide hr2
  have HF1 := hide hf1
  have HF2 := hide hf2
  have HN1 := hide hn1
  have HN2 := hide hn2
  have HI1 := hide (show objOk o1.d = true → InR 0 255 (writeB o1.d) from fun h => writeB_in h (by
    intro s hs
    obtain ⟨p, hp, rfl⟩ := List.mem_map.1 hs
    exact hz1 p hp))
  have HI2 := hide (show objOk o2.d = true → InR 0 255 (writeB o2.d) from fun h => writeB_in h (by
    intro s hs
    obtain ⟨p, hp, rfl⟩ := List.mem_map.1 hs
    exact hz2 p hp))
  clear hr1 hr2 hf1 hf2 hn1 hn2 hz1 hz2
  have HB := hide (show Below w.heap.size w ((w.alloc (.cells #[.slice o1.A o1.ps.length o1.c, .slice o1.Y o1.ys.length o1.yc] 26)).alloc (.cells #[.slice o2.A o2.ps.length o2.c, .slice o2.Y o2.ys.length o2.yc] 26)) from (by repeat (first | exact Below.refl _ _ | with_reducible assumption | (refine Below.drew ?_) | (refine Below.drewN ?_ _) | (refine Below.alloc ?_ (by simp; try omega) _) | (refine Below.setCell ?_ (by simp; try omega) _))))
  have HX := hide ((Box.new w 26 #[.slice o1.A o1.ps.length o1.c, .slice o1.Y o1.ys.length o1.yc]).alloc (.cells #[.slice o2.A o2.ps.length o2.c, .slice o2.Y o2.ys.length o2.yc] 26))
  have HY0 := Box.new (w.alloc (.cells #[.slice o1.A o1.ps.length o1.c, .slice o1.Y o1.ys.length o1.yc] 26)) 26 #[.slice o2.A o2.ps.length o2.c, .slice o2.Y o2.ys.length o2.yc]
  rw [World.size_alloc] at HY0
  have HY := hide HY0
  clear HY0
  go_enter Try.func35, Try.ntmps35
  go_wp2_with fail
  generalize hX : w.heap.size = X at HX HY
  generalize hY : X + 1 = Y at HX HY
  subst hX hY
  replace HR1 := hide ((HR1.out.below HB.out).more HB.out.size)
  replace HR2 := hide ((HR2.out.below HB.out).more HB.out.size)
  generalize (w.alloc (.cells #[.slice o1.A o1.ps.length o1.c, .slice o1.Y o1.ys.length o1.yc] 26)).alloc (.cells #[.slice o2.A o2.ps.length o2.c, .slice o2.Y o2.ys.length o2.yc] 26) = w0 at *
  generalize hYY : w.heap.size + 1 = Y at *
  clear hYY
  generalize hXX : w.heap.size = X at HX ⊢
  have x0 := HX.out.cell 0
  have x1 := HX.out.cell 1
  simp only [List.getElem?_toArray, List.getElem?_cons_zero, List.getElem?_cons_succ] at x0 x1
  have y0 := HY.out.cell 0
  have y1 := HY.out.cell 1
  simp only [List.getElem?_toArray, List.getElem?_cons_zero, List.getElem?_cons_succ] at y0 y1
  have Z0 : w0.cell? ⟨X, 0, none⟩ = some (.slice o1.A o1.ps.length o1.c) ∧ w0.cell? ⟨X, 1, none⟩ = some (.slice o1.Y o1.ys.length o1.yc) ∧ w0.cell? ⟨Y, 0, none⟩ = some (.slice o2.A o2.ps.length o2.c) ∧ w0.cell? ⟨Y, 1, none⟩ = some (.slice o2.Y o2.ys.length o2.yc) := ⟨x0, x1, y0, y1⟩
  clear x0 x1 y0 y1
  refine Reg.startT (fun W => W.cell? ⟨X, 0, none⟩ = some (.slice o1.A o1.ps.length o1.c) ∧ W.cell? ⟨X, 1, none⟩ = some (.slice o1.Y o1.ys.length o1.yc) ∧ W.cell? ⟨Y, 0, none⟩ = some (.slice o2.A o2.ps.length o2.c) ∧ W.cell? ⟨Y, 1, none⟩ = some (.slice o2.Y o2.ys.length o2.yc)) (fun _ => false) (by kernel_rfl) ?_
  have hHeld : w0.drew.cell? ⟨X, 0, none⟩ = some (.slice o1.A o1.ps.length o1.c) ∧ w0.drew.cell? ⟨X, 1, none⟩ = some (.slice o1.Y o1.ys.length o1.yc) ∧ w0.drew.cell? ⟨Y, 0, none⟩ = some (.slice o2.A o2.ps.length o2.c) ∧ w0.drew.cell? ⟨Y, 1, none⟩ = some (.slice o2.Y o2.ys.length o2.yc) := Z0
  clear Z0
  have bd : Below w0.heap.size w0 w0.drew := below_dr (Below.refl _ _)
  replace HR1 := hide ((HR1.out.below bd).more bd.size)
  replace HR2 := hide ((HR2.out.below bd).more bd.size)
  replace HB := hide (HB.out.trans (bd.mono HB.out.size))
  replace HX := hide (HX.out.call bd)
  replace HY := hide (HY.out.call bd)
  clear bd
  generalize w0.drew = w1 at *
  refine Reg.takeT (i := 0) (v := ?_) rfl (by kernel_rfl) (by kernel_rfl) (by kernel_rfl) (by kernel_rfl) (fun _ _ _ h => h) (Or.inl ⟨by rfl, ?_⟩) (by assumption) ?_
  rotate_left 1
  focus (intro w hSw; (try dsimp only at hSw); go_simp; (try with_reducible rfl))
  try simp only [List.getElem_toArray, List.getElem_cons_succ, List.getElem_cons_zero, Act.put, List.setIfInBounds_toArray, List.set_cons_zero, List.set_cons_succ]
  refine Reg.oneT (i := 1) rfl (by kernel_rfl) (fun K hK => ?_)
  go_simp
  refine (objectValidS_any o1 w1 HR1.out HF1.out).mono ?_
  rintro e w2 ⟨rfl, b2⟩
  replace HR1 := hide ((HR1.out.below b2).more b2.size)
  replace HR2 := hide ((HR2.out.below b2).more b2.size)
  replace HB := hide (HB.out.trans (b2.mono HB.out.size))
  replace HX := hide (HX.out.call b2)
  replace HY := hide (HY.out.call b2)
  clear b2
  clear hHeld
  have x0 := HX.out.cell 0
  have x1 := HX.out.cell 1
  simp only [List.getElem?_toArray, List.getElem?_cons_zero, List.getElem?_cons_succ] at x0 x1
  have y0 := HY.out.cell 0
  have y1 := HY.out.cell 1
  simp only [List.getElem?_toArray, List.getElem?_cons_zero, List.getElem?_cons_succ] at y0 y1
  have hHeld : w2.cell? ⟨X, 0, none⟩ = some (.slice o1.A o1.ps.length o1.c) ∧ w2.cell? ⟨X, 1, none⟩ = some (.slice o1.Y o1.ys.length o1.yc) ∧ w2.cell? ⟨Y, 0, none⟩ = some (.slice o2.A o2.ps.length o2.c) ∧ w2.cell? ⟨Y, 1, none⟩ = some (.slice o2.Y o2.ys.length o2.yc) := ⟨x0, x1, y0, y1⟩
  clear x0 x1 y0 y1
  refine hK.out _ _ hHeld ?_
  clear hK K
  try simp only [List.getElem_toArray, List.getElem_cons_succ, List.getElem_cons_zero, Act.put, List.setIfInBounds_toArray, List.set_cons_zero, List.set_cons_succ]
  by_cases hok1 : objOk o1.d = true
  · rw [hok1]
    refine Reg.takeT (i := 2) (v := ?_) rfl (by kernel_rfl) (by kernel_rfl) (by kernel_rfl) (by kernel_rfl) (fun _ _ _ h => h) (Or.inl ⟨by rfl, ?_⟩) (by assumption) ?_
    rotate_left 1
    focus (intro w hSw; (try dsimp only at hSw); go_simp; (try with_reducible rfl))
    try simp only [List.getElem_toArray, List.getElem_cons_succ, List.getElem_cons_zero, Act.put, List.setIfInBounds_toArray, List.set_cons_zero, List.set_cons_succ]
    refine Reg.takeT (i := 3) (v := ?_) rfl (by kernel_rfl) (by kernel_rfl) (by kernel_rfl) (by kernel_rfl) (fun _ _ _ h => h) (Or.inl ⟨by rfl, ?_⟩) (by assumption) ?_
    rotate_left 1
    focus (intro w hSw; (try dsimp only at hSw); go_simp; (try with_reducible rfl))
    try simp only [List.getElem_toArray, List.getElem_cons_succ, List.getElem_cons_zero, Act.put, List.setIfInBounds_toArray, List.set_cons_zero, List.set_cons_succ]
    refine Reg.oneT (i := 4) rfl (by kernel_rfl) (fun K hK => ?_)
    go_simp
    refine (objectValidS_any o2 w2 HR2.out HF2.out).mono ?_
    rintro e w3 ⟨rfl, b3⟩
    replace HR1 := hide ((HR1.out.below b3).more b3.size)
    replace HR2 := hide ((HR2.out.below b3).more b3.size)
    replace HB := hide (HB.out.trans (b3.mono HB.out.size))
    replace HX := hide (HX.out.call b3)
    replace HY := hide (HY.out.call b3)
    clear b3
    clear hHeld
    have x0 := HX.out.cell 0
    have x1 := HX.out.cell 1
    simp only [List.getElem?_toArray, List.getElem?_cons_zero, List.getElem?_cons_succ] at x0 x1
    have y0 := HY.out.cell 0
    have y1 := HY.out.cell 1
    simp only [List.getElem?_toArray, List.getElem?_cons_zero, List.getElem?_cons_succ] at y0 y1
    have hHeld : w3.cell? ⟨X, 0, none⟩ = some (.slice o1.A o1.ps.length o1.c) ∧ w3.cell? ⟨X, 1, none⟩ = some (.slice o1.Y o1.ys.length o1.yc) ∧ w3.cell? ⟨Y, 0, none⟩ = some (.slice o2.A o2.ps.length o2.c) ∧ w3.cell? ⟨Y, 1, none⟩ = some (.slice o2.Y o2.ys.length o2.yc) := ⟨x0, x1, y0, y1⟩
    clear x0 x1 y0 y1
    refine hK.out _ _ hHeld ?_
    clear hK K
    try simp only [List.getElem_toArray, List.getElem_cons_succ, List.getElem_cons_zero, Act.put, List.setIfInBounds_toArray, List.set_cons_zero, List.set_cons_succ]
    by_cases hok2 : objOk o2.d = true
    · rw [hok2]
      refine Reg.takeT (i := 5) (v := ?_) rfl (by kernel_rfl) (by kernel_rfl) (by kernel_rfl) (by kernel_rfl) (fun _ _ _ h => h) (Or.inl ⟨by rfl, ?_⟩) (by assumption) ?_
      rotate_left 1
      focus (intro w hSw; (try dsimp only at hSw); go_simp; (try with_reducible rfl))
      try simp only [List.getElem_toArray, List.getElem_cons_succ, List.getElem_cons_zero, Act.put, List.setIfInBounds_toArray, List.set_cons_zero, List.set_cons_succ]
      refine Reg.takeT (i := 6) (v := ?_) rfl (by kernel_rfl) (by kernel_rfl) (by kernel_rfl) (by kernel_rfl) (fun _ _ _ h => h) (Or.inl ⟨by rfl, ?_⟩) (by assumption) ?_
      rotate_left 1
      focus (intro w hSw; (try dsimp only at hSw); go_simp; (try with_reducible rfl))
      try simp only [List.getElem_toArray, List.getElem_cons_succ, List.getElem_cons_zero, Act.put, List.setIfInBounds_toArray, List.set_cons_zero, List.set_cons_succ]
      refine Reg.takeT (i := 7) (v := ?_) rfl (by kernel_rfl) (by kernel_rfl) (by kernel_rfl) (by kernel_rfl) (fun _ _ _ h => h) (Or.inl ⟨by rfl, ?_⟩) (by assumption) ?_
      rotate_left 1
      focus (intro w hSw; (try dsimp only at hSw); go_simp; (try with_reducible rfl))
      try simp only [List.getElem_toArray, List.getElem_cons_succ, List.getElem_cons_zero, Act.put, List.setIfInBounds_toArray, List.set_cons_zero, List.set_cons_succ]
      refine Reg.takeT (i := 9) (v := ?_) rfl (by kernel_rfl) (by kernel_rfl) (by kernel_rfl) (by kernel_rfl) (fun _ _ _ h => h) (Or.inl ⟨by rfl, ?_⟩) (by assumption) ?_
      rotate_left 1
      focus (intro w hSw; (try dsimp only at hSw); go_simp; (try with_reducible rfl))
      try simp only [List.getElem_toArray, List.getElem_cons_succ, List.getElem_cons_zero, Act.put, List.setIfInBounds_toArray, List.set_cons_zero, List.set_cons_succ]
      refine Reg.oneT (i := 8) rfl (by kernel_rfl) (fun K hK => ?_)
      go_simp
      refine (CWriteBS.writeObjectS_any o1 w3 HR1.out HF1.out hok1 HN1.out).mono ?_
      rintro e w4 ⟨A4, c4, rfl, r4, b4⟩
      have HRD4 := hide r4.rd
      clear r4
      replace HR1 := hide ((HR1.out.below b4).more b4.size)
      replace HR2 := hide ((HR2.out.below b4).more b4.size)
      replace HB := hide (HB.out.trans (b4.mono HB.out.size))
      replace HX := hide (HX.out.call b4)
      replace HY := hide (HY.out.call b4)
      clear b4
      clear hHeld
      have x0 := HX.out.cell 0
      have x1 := HX.out.cell 1
      simp only [List.getElem?_toArray, List.getElem?_cons_zero, List.getElem?_cons_succ] at x0 x1
      have y0 := HY.out.cell 0
      have y1 := HY.out.cell 1
      simp only [List.getElem?_toArray, List.getElem?_cons_zero, List.getElem?_cons_succ] at y0 y1
      have hHeld : w4.cell? ⟨X, 0, none⟩ = some (.slice o1.A o1.ps.length o1.c) ∧ w4.cell? ⟨X, 1, none⟩ = some (.slice o1.Y o1.ys.length o1.yc) ∧ w4.cell? ⟨Y, 0, none⟩ = some (.slice o2.A o2.ps.length o2.c) ∧ w4.cell? ⟨Y, 1, none⟩ = some (.slice o2.Y o2.ys.length o2.yc) := ⟨x0, x1, y0, y1⟩
      clear x0 x1 y0 y1
      refine hK.out _ _ hHeld ?_
      clear hK K
      try simp only [List.getElem_toArray, List.getElem_cons_succ, List.getElem_cons_zero, Act.put, List.setIfInBounds_toArray, List.set_cons_zero, List.set_cons_succ]
      refine Reg.oneT (i := 10) rfl (by kernel_rfl) (fun K hK => ?_)
      go_simp
      refine (CWriteBS.writeObjectS_any o2 w4 HR2.out HF2.out hok2 HN2.out).mono ?_
      rintro e w5 ⟨A5, c5, rfl, r5, b5⟩
      have HS5 := hide b5.size
      have HRD5 := hide r5.rd
      replace HRD4 := hide (HRD4.out.below b5)
      clear r5
      replace HR1 := hide ((HR1.out.below b5).more b5.size)
      replace HR2 := hide ((HR2.out.below b5).more b5.size)
      replace HB := hide (HB.out.trans (b5.mono HB.out.size))
      replace HX := hide (HX.out.call b5)
      replace HY := hide (HY.out.call b5)
      clear b5
      clear hHeld
      have x0 := HX.out.cell 0
      have x1 := HX.out.cell 1
      simp only [List.getElem?_toArray, List.getElem?_cons_zero, List.getElem?_cons_succ] at x0 x1
      have y0 := HY.out.cell 0
      have y1 := HY.out.cell 1
      simp only [List.getElem?_toArray, List.getElem?_cons_zero, List.getElem?_cons_succ] at y0 y1
      have hHeld : w5.cell? ⟨X, 0, none⟩ = some (.slice o1.A o1.ps.length o1.c) ∧ w5.cell? ⟨X, 1, none⟩ = some (.slice o1.Y o1.ys.length o1.yc) ∧ w5.cell? ⟨Y, 0, none⟩ = some (.slice o2.A o2.ps.length o2.c) ∧ w5.cell? ⟨Y, 1, none⟩ = some (.slice o2.Y o2.ys.length o2.yc) := ⟨x0, x1, y0, y1⟩
      clear x0 x1 y0 y1
      refine hK.out _ _ hHeld ?_
      clear hK K
      try simp only [List.getElem_toArray, List.getElem_cons_succ, List.getElem_cons_zero, Act.put, List.setIfInBounds_toArray, List.set_cons_zero, List.set_cons_succ]
      refine Reg.oneT (i := 11) rfl (by kernel_rfl) (fun K hK => ?_)
      go_simp
      have HML := hide (And.intro (writeB_len hok1) (writeB_len hok2))
      refine (CSame7.l7Same_any A4 A5 (writeB o1.d) (writeB o2.d) c4 c5 _ _ w5 HRD4.out HRD5.out HS5.out (Nat.le_refl _) HML.out.1 HML.out.2).mono ?_
      rintro e w6 ⟨rfl, b6⟩
      replace HB := hide (HB.out.trans (b6.mono HB.out.size))
      replace HX := hide (HX.out.call b6)
      replace HY := hide (HY.out.call b6)
      clear b6
      clear hHeld
      have x0 := HX.out.cell 0
      have x1 := HX.out.cell 1
      simp only [List.getElem?_toArray, List.getElem?_cons_zero, List.getElem?_cons_succ] at x0 x1
      have y0 := HY.out.cell 0
      have y1 := HY.out.cell 1
      simp only [List.getElem?_toArray, List.getElem?_cons_zero, List.getElem?_cons_succ] at y0 y1
      have hHeld : w6.cell? ⟨X, 0, none⟩ = some (.slice o1.A o1.ps.length o1.c) ∧ w6.cell? ⟨X, 1, none⟩ = some (.slice o1.Y o1.ys.length o1.yc) ∧ w6.cell? ⟨Y, 0, none⟩ = some (.slice o2.A o2.ps.length o2.c) ∧ w6.cell? ⟨Y, 1, none⟩ = some (.slice o2.Y o2.ys.length o2.yc) := ⟨x0, x1, y0, y1⟩
      clear x0 x1 y0 y1
      refine hK.out _ _ hHeld ?_
      clear hK K
      try simp only [List.getElem_toArray, List.getElem_cons_succ, List.getElem_cons_zero, Act.put, List.setIfInBounds_toArray, List.set_cons_zero, List.set_cons_succ]
      have hv : sameB o1.d o2.d = decide (writeB o1.d = writeB o2.d) := by unfold sameB; rw [hok1, hok2]; rfl
      refine Reg.takeT (i := 12) (v := ?_) rfl (by kernel_rfl) (by kernel_rfl) (by kernel_rfl) (by kernel_rfl) (fun _ _ _ h => h) (Or.inl ⟨by rfl, ?_⟩) (by assumption) ?_
      rotate_left 1
      focus (intro w hSw; (try dsimp only at hSw); go_simp; (try with_reducible rfl))
      try simp only [List.getElem_toArray, List.getElem_cons_succ, List.getElem_cons_zero, Act.put, List.setIfInBounds_toArray, List.set_cons_zero, List.set_cons_succ]
      refine Reg.takeT (i := 13) (v := ?_) rfl (by kernel_rfl) (by kernel_rfl) (by kernel_rfl) (by kernel_rfl) (fun _ _ _ h => h) (Or.inl ⟨by rfl, ?_⟩) (by assumption) ?_
      rotate_left 1
      focus (intro w hSw; (try dsimp only at hSw); go_simp; (try with_reducible rfl))
      try simp only [List.getElem_toArray, List.getElem_cons_succ, List.getElem_cons_zero, Act.put, List.setIfInBounds_toArray, List.set_cons_zero, List.set_cons_succ]
      clear hHeld
      refine Reg.doneT (by kernel_rfl) ?_ _
      go_wp2_with fail
      go_ret
      exact ⟨by rw [hv]; rfl, HB.out⟩
    · rw [Bool.not_eq_true] at hok2
      have hv : sameB o1.d o2.d = false := by unfold sameB; rw [hok1, hok2]; rfl
      rw [hok2]
      refine Reg.takeT (i := 5) (v := ?_) rfl (by kernel_rfl) (by kernel_rfl) (by kernel_rfl) (by kernel_rfl) (fun _ _ _ h => h) (Or.inl ⟨by rfl, ?_⟩) (by assumption) ?_
      rotate_left 1
      focus (intro w hSw; (try dsimp only at hSw); go_simp; (try with_reducible rfl))
      try simp only [List.getElem_toArray, List.getElem_cons_succ, List.getElem_cons_zero, Act.put, List.setIfInBounds_toArray, List.set_cons_zero, List.set_cons_succ]
      refine Reg.takeT (i := 6) (v := ?_) rfl (by kernel_rfl) (by kernel_rfl) (by kernel_rfl) (by kernel_rfl) (fun _ _ _ h => h) (Or.inl ⟨by rfl, ?_⟩) (by assumption) ?_
      rotate_left 1
      focus (intro w hSw; (try dsimp only at hSw); go_simp; (try with_reducible rfl))
      try simp only [List.getElem_toArray, List.getElem_cons_succ, List.getElem_cons_zero, Act.put, List.setIfInBounds_toArray, List.set_cons_zero, List.set_cons_succ]
      refine Reg.takeT (i := 7) (v := undef) rfl (by kernel_rfl) (by kernel_rfl) (by kernel_rfl) (by kernel_rfl) (fun _ _ _ h => h) (Or.inr ⟨by rfl, rfl⟩) (by assumption) ?_
      try simp only [List.getElem_toArray, List.getElem_cons_succ, List.getElem_cons_zero, Act.put, List.setIfInBounds_toArray, List.set_cons_zero, List.set_cons_succ]
      refine Reg.takeT (i := 8) (v := undef) rfl (by kernel_rfl) (by kernel_rfl) (by kernel_rfl) (by kernel_rfl) (fun _ _ _ h => h) (Or.inr ⟨by rfl, rfl⟩) (by assumption) ?_
      try simp only [List.getElem_toArray, List.getElem_cons_succ, List.getElem_cons_zero, Act.put, List.setIfInBounds_toArray, List.set_cons_zero, List.set_cons_succ]
      refine Reg.takeT (i := 9) (v := undef) rfl (by kernel_rfl) (by kernel_rfl) (by kernel_rfl) (by kernel_rfl) (fun _ _ _ h => h) (Or.inr ⟨by rfl, rfl⟩) (by assumption) ?_
      try simp only [List.getElem_toArray, List.getElem_cons_succ, List.getElem_cons_zero, Act.put, List.setIfInBounds_toArray, List.set_cons_zero, List.set_cons_succ]
      refine Reg.takeT (i := 10) (v := undef) rfl (by kernel_rfl) (by kernel_rfl) (by kernel_rfl) (by kernel_rfl) (fun _ _ _ h => h) (Or.inr ⟨by rfl, rfl⟩) (by assumption) ?_
      try simp only [List.getElem_toArray, List.getElem_cons_succ, List.getElem_cons_zero, Act.put, List.setIfInBounds_toArray, List.set_cons_zero, List.set_cons_succ]
      refine Reg.takeT (i := 11) (v := undef) rfl (by kernel_rfl) (by kernel_rfl) (by kernel_rfl) (by kernel_rfl) (fun _ _ _ h => h) (Or.inr ⟨by rfl, rfl⟩) (by assumption) ?_
      try simp only [List.getElem_toArray, List.getElem_cons_succ, List.getElem_cons_zero, Act.put, List.setIfInBounds_toArray, List.set_cons_zero, List.set_cons_succ]
      refine Reg.takeT (i := 12) (v := ?_) rfl (by kernel_rfl) (by kernel_rfl) (by kernel_rfl) (by kernel_rfl) (fun _ _ _ h => h) (Or.inl ⟨by rfl, ?_⟩) (by assumption) ?_
      rotate_left 1
      focus (intro w hSw; (try dsimp only at hSw); go_simp; (try with_reducible rfl))
      try simp only [List.getElem_toArray, List.getElem_cons_succ, List.getElem_cons_zero, Act.put, List.setIfInBounds_toArray, List.set_cons_zero, List.set_cons_succ]
      refine Reg.takeT (i := 13) (v := ?_) rfl (by kernel_rfl) (by kernel_rfl) (by kernel_rfl) (by kernel_rfl) (fun _ _ _ h => h) (Or.inl ⟨by rfl, ?_⟩) (by assumption) ?_
      rotate_left 1
      focus (intro w hSw; (try dsimp only at hSw); go_simp; (try with_reducible rfl))
      try simp only [List.getElem_toArray, List.getElem_cons_succ, List.getElem_cons_zero, Act.put, List.setIfInBounds_toArray, List.set_cons_zero, List.set_cons_succ]
      clear hHeld
      refine Reg.doneT (by kernel_rfl) ?_ _
      go_wp2_with fail
      go_ret
      exact ⟨by rw [hv]; rfl, HB.out⟩
  · rw [Bool.not_eq_true] at hok1
    have hv : sameB o1.d o2.d = false := by unfold sameB; rw [hok1]; rfl
    rw [hok1]
    refine Reg.takeT (i := 2) (v := ?_) rfl (by kernel_rfl) (by kernel_rfl) (by kernel_rfl) (by kernel_rfl) (fun _ _ _ h => h) (Or.inl ⟨by rfl, ?_⟩) (by assumption) ?_
    rotate_left 1
    focus (intro w hSw; (try dsimp only at hSw); go_simp; (try with_reducible rfl))
    try simp only [List.getElem_toArray, List.getElem_cons_succ, List.getElem_cons_zero, Act.put, List.setIfInBounds_toArray, List.set_cons_zero, List.set_cons_succ]
    refine Reg.takeT (i := 3) (v := undef) rfl (by kernel_rfl) (by kernel_rfl) (by kernel_rfl) (by kernel_rfl) (fun _ _ _ h => h) (Or.inr ⟨by rfl, rfl⟩) (by assumption) ?_
    try simp only [List.getElem_toArray, List.getElem_cons_succ, List.getElem_cons_zero, Act.put, List.setIfInBounds_toArray, List.set_cons_zero, List.set_cons_succ]
    refine Reg.takeT (i := 4) (v := undef) rfl (by kernel_rfl) (by kernel_rfl) (by kernel_rfl) (by kernel_rfl) (fun _ _ _ h => h) (Or.inr ⟨by rfl, rfl⟩) (by assumption) ?_
    try simp only [List.getElem_toArray, List.getElem_cons_succ, List.getElem_cons_zero, Act.put, List.setIfInBounds_toArray, List.set_cons_zero, List.set_cons_succ]
    refine Reg.takeT (i := 5) (v := ?_) rfl (by kernel_rfl) (by kernel_rfl) (by kernel_rfl) (by kernel_rfl) (fun _ _ _ h => h) (Or.inl ⟨by rfl, ?_⟩) (by assumption) ?_
    rotate_left 1
    focus (intro w hSw; (try dsimp only at hSw); go_simp; (try with_reducible rfl))
    try simp only [List.getElem_toArray, List.getElem_cons_succ, List.getElem_cons_zero, Act.put, List.setIfInBounds_toArray, List.set_cons_zero, List.set_cons_succ]
    refine Reg.takeT (i := 6) (v := ?_) rfl (by kernel_rfl) (by kernel_rfl) (by kernel_rfl) (by kernel_rfl) (fun _ _ _ h => h) (Or.inl ⟨by rfl, ?_⟩) (by assumption) ?_
    rotate_left 1
    focus (intro w hSw; (try dsimp only at hSw); go_simp; (try with_reducible rfl))
    try simp only [List.getElem_toArray, List.getElem_cons_succ, List.getElem_cons_zero, Act.put, List.setIfInBounds_toArray, List.set_cons_zero, List.set_cons_succ]
    refine Reg.takeT (i := 7) (v := undef) rfl (by kernel_rfl) (by kernel_rfl) (by kernel_rfl) (by kernel_rfl) (fun _ _ _ h => h) (Or.inr ⟨by rfl, rfl⟩) (by assumption) ?_
    try simp only [List.getElem_toArray, List.getElem_cons_succ, List.getElem_cons_zero, Act.put, List.setIfInBounds_toArray, List.set_cons_zero, List.set_cons_succ]
    refine Reg.takeT (i := 8) (v := undef) rfl (by kernel_rfl) (by kernel_rfl) (by kernel_rfl) (by kernel_rfl) (fun _ _ _ h => h) (Or.inr ⟨by rfl, rfl⟩) (by assumption) ?_
    try simp only [List.getElem_toArray, List.getElem_cons_succ, List.getElem_cons_zero, Act.put, List.setIfInBounds_toArray, List.set_cons_zero, List.set_cons_succ]
    refine Reg.takeT (i := 9) (v := undef) rfl (by kernel_rfl) (by kernel_rfl) (by kernel_rfl) (by kernel_rfl) (fun _ _ _ h => h) (Or.inr ⟨by rfl, rfl⟩) (by assumption) ?_
    try simp only [List.getElem_toArray, List.getElem_cons_succ, List.getElem_cons_zero, Act.put, List.setIfInBounds_toArray, List.set_cons_zero, List.set_cons_succ]
    refine Reg.takeT (i := 10) (v := undef) rfl (by kernel_rfl) (by kernel_rfl) (by kernel_rfl) (by kernel_rfl) (fun _ _ _ h => h) (Or.inr ⟨by rfl, rfl⟩) (by assumption) ?_
    try simp only [List.getElem_toArray, List.getElem_cons_succ, List.getElem_cons_zero, Act.put, List.setIfInBounds_toArray, List.set_cons_zero, List.set_cons_succ]
    refine Reg.takeT (i := 11) (v := undef) rfl (by kernel_rfl) (by kernel_rfl) (by kernel_rfl) (by kernel_rfl) (fun _ _ _ h => h) (Or.inr ⟨by rfl, rfl⟩) (by assumption) ?_
    try simp only [List.getElem_toArray, List.getElem_cons_succ, List.getElem_cons_zero, Act.put, List.setIfInBounds_toArray, List.set_cons_zero, List.set_cons_succ]
    refine Reg.takeT (i := 12) (v := ?_) rfl (by kernel_rfl) (by kernel_rfl) (by kernel_rfl) (by kernel_rfl) (fun _ _ _ h => h) (Or.inl ⟨by rfl, ?_⟩) (by assumption) ?_
    rotate_left 1
    focus (intro w hSw; (try dsimp only at hSw); go_simp; (try with_reducible rfl))
    try simp only [List.getElem_toArray, List.getElem_cons_succ, List.getElem_cons_zero, Act.put, List.setIfInBounds_toArray, List.set_cons_zero, List.set_cons_succ]
    refine Reg.takeT (i := 13) (v := ?_) rfl (by kernel_rfl) (by kernel_rfl) (by kernel_rfl) (by kernel_rfl) (fun _ _ _ h => h) (Or.inl ⟨by rfl, ?_⟩) (by assumption) ?_
    rotate_left 1
    focus (intro w hSw; (try dsimp only at hSw); go_simp; (try with_reducible rfl))
    try simp only [List.getElem_toArray, List.getElem_cons_succ, List.getElem_cons_zero, Act.put, List.setIfInBounds_toArray, List.set_cons_zero, List.set_cons_succ]
    clear hHeld
    refine Reg.doneT (by kernel_rfl) ?_ _
    go_wp2_with fail
    go_ret
    exact ⟨by rw [hv]; rfl, HB.out⟩
end Go.Proofs.Ytmglgjchemecjaa.CSameObjS
/- Contracts of the laws' comparisons of lists. -/
namespace Go.Proofs.Ytmglgjchemecjaa.CSame
set_option maxRecDepth 200000
open Go.ChangeShapes Go.WideShapes Go.ChangeAt Go.RowKit Kit
theorem sameBytes_any (A A' : Option Addr) (xs ys : List Int) (c c' B : Nat) (w : World) (hr : Rd w B A (ints .u8 xs)) (hr' : Rd w B A' (ints .u8 ys)) (hm : xs.length ≤ maxLen) (hm' : ys.length ≤ maxLen) :
    Calls Try.prog 85 #[.slice A xs.length c, .slice A' ys.length c'] w fun e w' => e = .returned (.bool (xs == ys)) ∧ ∃ n, w' = w.drewN n := by
  unfold maxLen at hm hm'
  by_cases hl : xs.length = ys.length
  · have h0 : (((xs.length : Nat) : Int) != (ys.length : Nat)) = false := by simp; omega
    go_enter Try.func85, Try.ntmps85
    go_wp2
    clear h0
    have HL := hide hl
    go_loopw [5] (fun i wr => ∃ k : Nat, k ≤ xs.length ∧ i = .int .i64 k ∧ xs.take k = ys.take k ∧ ∃ n, wr = w.drewN n) (fun i _ => xs.length - (intOf i).toNat)
    case atStart => exact ⟨0, Nat.zero_le _, rfl, rfl, 0, rfl⟩
    case round =>
      obtain ⟨k, hk, rfl, he, n, rfl⟩ := hrel
      have HE := hide he
      clear he hl
      by_cases hlt : k < xs.length
      · obtain ⟨b, off, rfl, _, hc⟩ := hr.int hlt
        obtain ⟨b', off', rfl, _, hc'⟩ := hr'.int (i := k) (by have := HL.out; omega)
        clear hr hr'
        have hlt' : k < ys.length := by have := HL.out; omega
        by_cases hxy : xs[k] = ys[k]
        · have HE' := hide (show xs.take (k + 1) = ys.take (k + 1) by rw [take_succ hlt, take_succ hlt', HE.out, hxy])
          have hn : (xs[k] != ys[k]) = false := by simpa using hxy
          clear hxy
          go_wp2_with fail
          go_quiet (fail)
          go_wp2
          go_roundw
          case rel => exact ⟨k + 1, by omega, by go_num, HE'.out, _, rfl⟩
          case measure => simp [intOf]; omega
        · have hn : (xs[k] != ys[k]) = true := by simpa using hxy
          have HF := hide (show (xs == ys) = false by
            apply beq_eq_false_iff_ne.2
            intro e
            subst e
            exact hxy rfl)
          clear hxy
          go_wp2_with fail
          go_quiet (fail)
          go_wp2
          go_ret
          exact ⟨ret_bool HF.out.symm, _, World.drewN_drewN ..⟩
      · have HF := hide (show (xs == ys) = true by
          have e := HE.out
          have := HL.out
          rw [List.take_of_length_le (by omega), List.take_of_length_le (by omega)] at e
          subst e
          simp)
        clear hr hr'
        go_wp2
        go_ret
        exact ⟨ret_bool HF.out.symm, _, rfl⟩
  · have h1 : (((xs.length : Nat) : Int) != (ys.length : Nat)) = true := by simp; omega
    have h2 : (xs == ys) = false := by simp; intro e; exact hl (by rw [e])
    have H2 := hide h2
    clear h2 hl
    go_enter Try.func85, Try.ntmps85
    go_wp2
    go_ret
    exact ⟨ret_bool H2.out.symm, 0, rfl⟩
end Go.Proofs.Ytmglgjchemecjaa.CSame
