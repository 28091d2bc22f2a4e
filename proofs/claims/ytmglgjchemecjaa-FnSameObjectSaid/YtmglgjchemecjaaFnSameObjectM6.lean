/- The reference's ObjectValid. -/
import Derived.Test.YtmglgjchemecjaaFnSameObjectM5
import Derived.BigQuiet
import Derived.Lib.VarintMem
import Derived.Lib.EndianMore
set_option linter.unusedSimpArgs false
set_option linter.unusedVariables false
namespace Go.Proofs.Ytmglgjchemecjaa.CObjValidS
set_option maxRecDepth 200000
open Go.ChangeShapes Go.WideShapes Go.ChangeAt Go.RowKit Kit CCode CName CFixups CSymbols PObj BObj PValid CSecValid CSecValid2 CSecValid3 CSymValid CGlobalOf CObjValid
theorem obj_sizes {d : OD} (h3 : ∀ p ∈ d.ss, secOk d.ys.length p = true) (h4 : ∀ k, (h : k < d.ys.length) → symAt d.ss d.ys k d.ys[k] = true) : objOk d = (decide (d.ss.length ≤ 8) && decide (d.ys.length ≤ 12)) := by
  by_cases h1 : d.ss.length ≤ 8
  · by_cases h2 : d.ys.length ≤ 12
    · rw [obj_yes h1 h2 h3 h4, decide_eq_true h1, decide_eq_true h2]
      rfl
    · rw [obj_big (.inr (by omega)), decide_eq_false h2, Bool.and_false]
  · rw [obj_big (.inl (by omega)), decide_eq_false h1, Bool.false_and]
set_option maxHeartbeats 4000000 in
theorem objectValidS_any (o : OV) (w : World) (hr : RdO w w.heap.size o) (hf : Fit o) :
    Calls Try.prog 29 #[.agg #[.slice o.A o.ps.length o.c, .slice o.Y o.ys.length o.yc]] w (Ret (.bool (objOk o.d)) w) := by
  obtain ⟨A, c, ps, Y, yc, ys⟩ := o
  obtain ⟨np, ny, cy, hp, hy⟩ := hf
  simp only [OV.d] at np ny cy hp hy ⊢
  have HR := hide hr
  have HL := hide (And.intro hp hy)
  clear hr hp hy
  have B0 : Below w.heap.size w (w.alloc (.cells #[.slice A ps.length c, .slice Y ys.length yc] 26)) := (by repeat (first | exact Below.refl _ _ | with_reducible assumption | (refine Below.drew ?_) | (refine Below.drewN ?_ _) | (refine Below.alloc ?_ (by simp; try omega) _) | (refine Below.setCell ?_ (by simp; try omega) _)))
  have X0 := Box.new w 26 #[.slice A ps.length c, .slice Y ys.length yc]
  have HB := hide B0
  clear B0
  go_enter Try.func29, Try.ntmps29
  go_wp2_with fail
  generalize w.alloc (.cells #[.slice A ps.length c, .slice Y ys.length yc] 26) = w0 at *
  go_loopw [3] (fun i wi => ∃ k : Nat, k ≤ ps.length ∧ i = .int .i64 k ∧ (∀ p ∈ ps.take k, secOk ys.length p.d = true) ∧ Box wi w.heap.size 26 #[.slice A ps.length c, .slice Y ys.length yc] ∧ Below w.heap.size w wi) (fun i _ => ps.length - (intOf i).toNat)
  case atStart => exact ⟨0, Nat.zero_le _, rfl, fun p hp => by simp at hp, X0, HB.out⟩
  case round =>
    obtain ⟨k, hk, rfl, hok, hx, hb⟩ := hrel
    have HO := hide hok
    have HX := hide hx
    have HBI := hide hb
    clear X0 HB
    have x0 := hx.cell 0
    have x1 := hx.cell 1
    simp only [List.getElem?_toArray, List.getElem?_cons_zero, List.getElem?_cons_succ] at x0 x1
    have hxl := hx.lt
    by_cases hlt : k < ps.length
    · obtain ⟨b, off, hA, hbg, hc⟩ := (HR.out.1.1.below hb).row secC_len (by decide) hlt
      subst hA
      have hbw : b < wr.heap.size := Nat.lt_of_lt_of_le hbg hb.size
      have hc0 := hc 0 _ rfl
      have hc1 := hc 1 _ rfl
      have hc2 := hc 2 _ rfl
      have hc3 := hc 3 _ rfl
      have hc4 := hc 4 _ rfl
      have hc5 := hc 5 _ rfl
      simp only [Nat.add_zero] at hc0
      have HM := hide (HL.out.1 _ (List.getElem_mem hlt))
      have HRS := hide (HR.out.1.2 _ (List.getElem_mem hlt))
      have HS := hide (fun (h : secOk ys.length ps[k].d = true) => (show ∀ p ∈ ps.take (k + 1), secOk ys.length p.d = true from fun p hp => by
        rw [take_succ hlt] at hp
        rcases List.mem_append.1 hp with hp | hp
        · exact HO.out p hp
        · rw [List.mem_singleton.1 hp]; exact h))
      have HF := hide (fun (h : secOk ys.length ps[k].d = false) => obj_sec (d := ⟨ps.map SV.d, ys⟩) (List.mem_map_of_mem (List.getElem_mem hlt)) h)
      clear hok hx hb hc HO
      generalize ps[k] = p at *
      go_wp2_with fail
      have HSS : Hid (∀ V : World, Below wr.heap.size wr V → (V.cell? ⟨w.heap.size, 0, none⟩ = some (.slice (some ⟨b, off, none⟩) ps.length c) ∧ V.cell? ⟨w.heap.size, 1, none⟩ = some (.slice Y ys.length yc) ∧ V.cell? ⟨b, off + k * 6, none⟩ = some (.string p.nm) ∧ V.cell? ⟨b, off + k * 6 + 1, none⟩ = some (.int .i64 p.kd) ∧ V.cell? ⟨b, off + k * 6 + 2, none⟩ = some (.int .i64 p.al) ∧ V.cell? ⟨b, off + k * 6 + 3, none⟩ = some (.slice p.A p.zs.length p.c) ∧ V.cell? ⟨b, off + k * 6 + 4, none⟩ = some (.int .i64 p.sz) ∧ V.cell? ⟨b, off + k * 6 + 5, none⟩ = some (.slice p.F p.fs.length p.fc))) := hide (fun V hV => ⟨(hV.cell (p := ⟨w.heap.size, 0, none⟩) hxl).trans x0, (hV.cell (p := ⟨w.heap.size, 1, none⟩) hxl).trans x1, (hV.cell (p := ⟨b, off + k * 6, none⟩) hbw).trans hc0, (hV.cell (p := ⟨b, off + k * 6 + 1, none⟩) hbw).trans hc1, (hV.cell (p := ⟨b, off + k * 6 + 2, none⟩) hbw).trans hc2, (hV.cell (p := ⟨b, off + k * 6 + 3, none⟩) hbw).trans hc3, (hV.cell (p := ⟨b, off + k * 6 + 4, none⟩) hbw).trans hc4, (hV.cell (p := ⟨b, off + k * 6 + 5, none⟩) hbw).trans hc5⟩)
      clear hc0 hc1 hc2 hc3 hc4 hc5 x0 x1
      refine Reg.startT (fun V => V.cell? ⟨w.heap.size, 0, none⟩ = some (.slice (some ⟨b, off, none⟩) ps.length c) ∧ V.cell? ⟨w.heap.size, 1, none⟩ = some (.slice Y ys.length yc) ∧ V.cell? ⟨b, off + k * 6, none⟩ = some (.string p.nm) ∧ V.cell? ⟨b, off + k * 6 + 1, none⟩ = some (.int .i64 p.kd) ∧ V.cell? ⟨b, off + k * 6 + 2, none⟩ = some (.int .i64 p.al) ∧ V.cell? ⟨b, off + k * 6 + 3, none⟩ = some (.slice p.A p.zs.length p.c) ∧ V.cell? ⟨b, off + k * 6 + 4, none⟩ = some (.int .i64 p.sz) ∧ V.cell? ⟨b, off + k * 6 + 5, none⟩ = some (.slice p.F p.fs.length p.fc)) (fun _ => false) (by kernel_rfl) ?_
      have hHeld := HSS.out wr.drew (Below.drew (Below.refl _ _))
      refine Reg.takeT (i := 0) (v := ?_) rfl (by kernel_rfl) (by kernel_rfl) (by kernel_rfl) (by kernel_rfl) (fun _ _ _ h => h) (Or.inl ⟨by rfl, ?_⟩) (by assumption) ?_
      rotate_left 1
      focus (intro w hSw; (try dsimp only at hSw); go_simp; (try with_reducible rfl))
      try simp only [List.getElem_toArray, List.getElem_cons_succ, List.getElem_cons_zero, Act.put, List.setIfInBounds_toArray, List.set_cons_zero, List.set_cons_succ]
      refine Reg.takeT (i := 1) (v := ?_) rfl (by kernel_rfl) (by kernel_rfl) (by kernel_rfl) (by kernel_rfl) (fun _ _ _ h => h) (Or.inl ⟨by rfl, ?_⟩) (by assumption) ?_
      rotate_left 1
      focus (intro w hSw; (try dsimp only at hSw); go_simp; (try with_reducible rfl))
      try simp only [List.getElem_toArray, List.getElem_cons_succ, List.getElem_cons_zero, Act.put, List.setIfInBounds_toArray, List.set_cons_zero, List.set_cons_succ]
      refine Reg.takeT (i := 2) (v := ?_) rfl (by kernel_rfl) (by kernel_rfl) (by kernel_rfl) (by kernel_rfl) (fun _ _ _ h => h) (Or.inl ⟨by rfl, ?_⟩) (by assumption) ?_
      rotate_left 1
      focus (intro w hSw; (try dsimp only at hSw); go_simp; (try with_reducible rfl))
      try simp only [List.getElem_toArray, List.getElem_cons_succ, List.getElem_cons_zero, Act.put, List.setIfInBounds_toArray, List.set_cons_zero, List.set_cons_succ]
      refine Reg.takeT (i := 3) (v := ?_) rfl (by kernel_rfl) (by kernel_rfl) (by kernel_rfl) (by kernel_rfl) (fun _ _ _ h => h) (Or.inl ⟨by rfl, ?_⟩) (by assumption) ?_
      rotate_left 1
      focus (intro w hSw; (try dsimp only at hSw); go_simp; (try with_reducible rfl))
      try simp only [List.getElem_toArray, List.getElem_cons_succ, List.getElem_cons_zero, Act.put, List.setIfInBounds_toArray, List.set_cons_zero, List.set_cons_succ]
      refine Reg.takeT (i := 4) (v := ?_) rfl (by kernel_rfl) (by kernel_rfl) (by kernel_rfl) (by kernel_rfl) (fun _ _ _ h => h) (Or.inl ⟨by rfl, ?_⟩) (by assumption) ?_
      rotate_left 1
      focus (intro w hSw; (try dsimp only at hSw); go_simp; (try with_reducible rfl))
      try simp only [List.getElem_toArray, List.getElem_cons_succ, List.getElem_cons_zero, Act.put, List.setIfInBounds_toArray, List.set_cons_zero, List.set_cons_succ]
      refine Reg.takeT (i := 5) (v := ?_) rfl (by kernel_rfl) (by kernel_rfl) (by kernel_rfl) (by kernel_rfl) (fun _ _ _ h => h) (Or.inl ⟨by rfl, ?_⟩) (by assumption) ?_
      rotate_left 1
      focus (intro w hSw; (try dsimp only at hSw); go_simp; (try with_reducible rfl))
      try simp only [List.getElem_toArray, List.getElem_cons_succ, List.getElem_cons_zero, Act.put, List.setIfInBounds_toArray, List.set_cons_zero, List.set_cons_succ]
      refine Reg.takeT (i := 6) (v := ?_) rfl (by kernel_rfl) (by kernel_rfl) (by kernel_rfl) (by kernel_rfl) (fun _ _ _ h => h) (Or.inl ⟨by rfl, ?_⟩) (by assumption) ?_
      rotate_left 1
      focus (intro w hSw; (try dsimp only at hSw); go_simp; (try with_reducible rfl))
      try simp only [List.getElem_toArray, List.getElem_cons_succ, List.getElem_cons_zero, Act.put, List.setIfInBounds_toArray, List.set_cons_zero, List.set_cons_succ]
      refine Reg.takeT (i := 7) (v := ?_) rfl (by kernel_rfl) (by kernel_rfl) (by kernel_rfl) (by kernel_rfl) (fun _ _ _ h => h) (Or.inl ⟨by rfl, ?_⟩) (by assumption) ?_
      rotate_left 1
      focus (intro w hSw; (try dsimp only at hSw); go_simp; (try with_reducible rfl))
      try simp only [List.getElem_toArray, List.getElem_cons_succ, List.getElem_cons_zero, Act.put, List.setIfInBounds_toArray, List.set_cons_zero, List.set_cons_succ]
      refine Reg.oneT (i := 8) rfl (by kernel_rfl) (fun K hK => ?_)
      go_simp
      refine (sectionValidS_any p ys.length _ ((HRS.out.below (Below.drew HBI.out)).more (Below.drew HBI.out).size) HM.out.1 HM.out.2.1 HM.out.2.2).mono ?_
      rintro e w2 ⟨rfl, b2⟩
      have b2' := of_drew b2
      have hHeld := HSS.out w2 b2'
      refine hK.out _ _ hHeld ?_
      clear hK K
      try simp only [List.getElem_toArray, List.getElem_cons_succ, List.getElem_cons_zero, Act.put, List.setIfInBounds_toArray, List.set_cons_zero, List.set_cons_succ]
      have HX2 := hide (HX.out.call b2')
      have HB2 := hide (HBI.out.trans (b2'.mono HBI.out.size))
      clear b2 b2' HX HBI HSS
      cases hs : secOk ys.length p.d
      · have HV := hide (HF.out hs)
        clear HF HS hs
        refine Reg.takeT (i := 9) (v := ?_) rfl (by kernel_rfl) (by kernel_rfl) (by kernel_rfl) (by kernel_rfl) (fun _ _ _ h => h) (Or.inl ⟨by rfl, ?_⟩) (by assumption) ?_
        rotate_left 1
        focus (intro w hSw; (try dsimp only at hSw); go_simp; (try with_reducible rfl))
        try simp only [List.getElem_toArray, List.getElem_cons_succ, List.getElem_cons_zero, Act.put, List.setIfInBounds_toArray, List.set_cons_zero, List.set_cons_succ]
        refine Reg.doneT (by kernel_rfl) ?_ _
        clear hHeld
        go_wp2_with fail
        go_ret
        exact ⟨by rw [HV.out]; rfl, HB2.out⟩
      · have HS' := hide (HS.out hs)
        clear HF HS hs
        refine Reg.takeT (i := 9) (v := ?_) rfl (by kernel_rfl) (by kernel_rfl) (by kernel_rfl) (by kernel_rfl) (fun _ _ _ h => h) (Or.inl ⟨by rfl, ?_⟩) (by assumption) ?_
        rotate_left 1
        focus (intro w hSw; (try dsimp only at hSw); go_simp; (try with_reducible rfl))
        try simp only [List.getElem_toArray, List.getElem_cons_succ, List.getElem_cons_zero, Act.put, List.setIfInBounds_toArray, List.set_cons_zero, List.set_cons_succ]
        refine Reg.doneT (by kernel_rfl) ?_ _
        clear hHeld
        go_wp2_with fail
        refine ⟨⟨k + 1, by omega, by go_num, HS'.out, HX2.out, HB2.out⟩, by simp [intOf]; omega⟩
    · have HALL := hide (show ∀ p ∈ ps.map SV.d, secOk ys.length p = true from fun p hp => by
        obtain ⟨q, hq, rfl⟩ := List.mem_map.1 hp
        exact HO.out q (by rw [List.take_of_length_le (by omega)]; exact hq))
      clear HO hok hx hb
      go_wp2_with fail
      clear x0 x1
      go_loopw [4] (fun i wi => ∃ k : Nat, k ≤ ys.length ∧ i = .int .i64 k ∧ (∀ j, (h : j < ys.length) → j < k → symAt (ps.map SV.d) ys j ys[j] = true) ∧ Box wi w.heap.size 26 #[.slice A ps.length c, .slice Y ys.length yc] ∧ Below w.heap.size w wi) (fun i _ => ys.length - (intOf i).toNat)
      case atStart => exact ⟨0, Nat.zero_le _, rfl, fun j _ hj => absurd hj (Nat.not_lt_zero j), HX.out, HBI.out⟩
      case round =>
        obtain ⟨k, hk, rfl, hok, hx, hb⟩ := hrel
        clear HX HBI hxl
        have HO := hide hok
        have HX := hide hx
        have HBI := hide hb
        have x0 := hx.cell 0
        have x1 := hx.cell 1
        simp only [List.getElem?_toArray, List.getElem?_cons_zero, List.getElem?_cons_succ] at x0 x1
        have hxl := hx.lt
        by_cases hlt : k < ys.length
        · obtain ⟨b, off, hY, hbg, hc⟩ := (HR.out.2.below hb).row symbolC_len (by decide) hlt
          have hbw : b < wr.heap.size := Nat.lt_of_lt_of_le hbg hb.size
          have hc0 := hc 0 _ rfl
          have hc1 := hc 1 _ rfl
          have hc2 := hc 2 _ rfl
          have hc3 := hc 3 _ rfl
          simp only [Nat.add_zero] at hc0
          have HM := hide (HL.out.2 _ (List.getElem_mem hlt))
          have HS := hide (fun (h : symAt (ps.map SV.d) ys k ys[k] = true) => (show ∀ j, (h : j < ys.length) → j < k + 1 → symAt (ps.map SV.d) ys j ys[j] = true from fun j hj hjk => by
            rcases Nat.lt_or_ge j k with h' | h'
            · exact HO.out j hj h'
            · obtain rfl : j = k := by omega
              exact h))
          have HF := hide (fun (h : symAt (ps.map SV.d) ys k ys[k] = false) => obj_sym (d := ⟨ps.map SV.d, ys⟩) hlt h)
          clear hok hx hb hc HO
          unfold symAt at HS HF
          generalize ys[k] = z at *
          obtain ⟨zn, zb, zw, zv⟩ := z
          simp only at HM hc0 hc1 hc2 hc3 HS HF
          subst hY
          go_wp2_with fail
          have HSS : Hid (∀ V : World, Below wr.heap.size wr V → (V.cell? ⟨w.heap.size, 0, none⟩ = some (.slice A ps.length c) ∧ V.cell? ⟨w.heap.size, 1, none⟩ = some (.slice (some ⟨b, off, none⟩) ys.length yc) ∧ V.cell? ⟨b, off + k * 4, none⟩ = some (.string zn) ∧ V.cell? ⟨b, off + k * 4 + 1, none⟩ = some (.int .i64 zb) ∧ V.cell? ⟨b, off + k * 4 + 2, none⟩ = some (.int .i64 zw) ∧ V.cell? ⟨b, off + k * 4 + 3, none⟩ = some (.int .i64 zv))) := hide (fun V hV => ⟨(hV.cell (p := ⟨w.heap.size, 0, none⟩) hxl).trans x0, (hV.cell (p := ⟨w.heap.size, 1, none⟩) hxl).trans x1, (hV.cell (p := ⟨b, off + k * 4, none⟩) hbw).trans hc0, (hV.cell (p := ⟨b, off + k * 4 + 1, none⟩) hbw).trans hc1, (hV.cell (p := ⟨b, off + k * 4 + 2, none⟩) hbw).trans hc2, (hV.cell (p := ⟨b, off + k * 4 + 3, none⟩) hbw).trans hc3⟩)
          clear hc0 hc1 hc2 hc3 x0 x1
          refine Reg.startT (fun V => V.cell? ⟨w.heap.size, 0, none⟩ = some (.slice A ps.length c) ∧ V.cell? ⟨w.heap.size, 1, none⟩ = some (.slice (some ⟨b, off, none⟩) ys.length yc) ∧ V.cell? ⟨b, off + k * 4, none⟩ = some (.string zn) ∧ V.cell? ⟨b, off + k * 4 + 1, none⟩ = some (.int .i64 zb) ∧ V.cell? ⟨b, off + k * 4 + 2, none⟩ = some (.int .i64 zw) ∧ V.cell? ⟨b, off + k * 4 + 3, none⟩ = some (.int .i64 zv)) (fun _ => false) (by kernel_rfl) ?_
          have hHeld := HSS.out wr.drew (Below.drew (Below.refl _ _))
          refine Reg.takeT (i := 0) (v := ?_) rfl (by kernel_rfl) (by kernel_rfl) (by kernel_rfl) (by kernel_rfl) (fun _ _ _ h => h) (Or.inl ⟨by rfl, ?_⟩) (by assumption) ?_
          rotate_left 1
          focus (intro w hSw; (try dsimp only at hSw); go_simp; (try with_reducible rfl))
          try simp only [List.getElem_toArray, List.getElem_cons_succ, List.getElem_cons_zero, Act.put, List.setIfInBounds_toArray, List.set_cons_zero, List.set_cons_succ]
          refine Reg.takeT (i := 1) (v := ?_) rfl (by kernel_rfl) (by kernel_rfl) (by kernel_rfl) (by kernel_rfl) (fun _ _ _ h => h) (Or.inl ⟨by rfl, ?_⟩) (by assumption) ?_
          rotate_left 1
          focus (intro w hSw; (try dsimp only at hSw); go_simp; (try with_reducible rfl))
          try simp only [List.getElem_toArray, List.getElem_cons_succ, List.getElem_cons_zero, Act.put, List.setIfInBounds_toArray, List.set_cons_zero, List.set_cons_succ]
          refine Reg.takeT (i := 2) (v := ?_) rfl (by kernel_rfl) (by kernel_rfl) (by kernel_rfl) (by kernel_rfl) (fun _ _ _ h => h) (Or.inl ⟨by rfl, ?_⟩) (by assumption) ?_
          rotate_left 1
          focus (intro w hSw; (try dsimp only at hSw); go_simp; (try with_reducible rfl))
          try simp only [List.getElem_toArray, List.getElem_cons_succ, List.getElem_cons_zero, Act.put, List.setIfInBounds_toArray, List.set_cons_zero, List.set_cons_succ]
          refine Reg.takeT (i := 3) (v := ?_) rfl (by kernel_rfl) (by kernel_rfl) (by kernel_rfl) (by kernel_rfl) (fun _ _ _ h => h) (Or.inl ⟨by rfl, ?_⟩) (by assumption) ?_
          rotate_left 1
          focus (intro w hSw; (try dsimp only at hSw); go_simp; (try with_reducible rfl))
          try simp only [List.getElem_toArray, List.getElem_cons_succ, List.getElem_cons_zero, Act.put, List.setIfInBounds_toArray, List.set_cons_zero, List.set_cons_succ]
          refine Reg.takeT (i := 4) (v := ?_) rfl (by kernel_rfl) (by kernel_rfl) (by kernel_rfl) (by kernel_rfl) (fun _ _ _ h => h) (Or.inl ⟨by rfl, ?_⟩) (by assumption) ?_
          rotate_left 1
          focus (intro w hSw; (try dsimp only at hSw); go_simp; (try with_reducible rfl))
          try simp only [List.getElem_toArray, List.getElem_cons_succ, List.getElem_cons_zero, Act.put, List.setIfInBounds_toArray, List.set_cons_zero, List.set_cons_succ]
          refine Reg.takeT (i := 5) (v := ?_) rfl (by kernel_rfl) (by kernel_rfl) (by kernel_rfl) (by kernel_rfl) (fun _ _ _ h => h) (Or.inl ⟨by rfl, ?_⟩) (by assumption) ?_
          rotate_left 1
          focus (intro w hSw; (try dsimp only at hSw); go_simp; (try with_reducible rfl))
          try simp only [List.getElem_toArray, List.getElem_cons_succ, List.getElem_cons_zero, Act.put, List.setIfInBounds_toArray, List.set_cons_zero, List.set_cons_succ]
          refine Reg.takeT (i := 6) (v := ?_) rfl (by kernel_rfl) (by kernel_rfl) (by kernel_rfl) (by kernel_rfl) (fun _ _ _ h => h) (Or.inl ⟨by rfl, ?_⟩) (by assumption) ?_
          rotate_left 1
          focus (intro w hSw; (try dsimp only at hSw); go_simp; (try with_reducible rfl))
          try simp only [List.getElem_toArray, List.getElem_cons_succ, List.getElem_cons_zero, Act.put, List.setIfInBounds_toArray, List.set_cons_zero, List.set_cons_succ]
          refine Reg.oneT (i := 7) rfl (by kernel_rfl) (fun K hK => ?_)
          go_simp
          refine (symbolValidS_any (zn, zb, zw, zv) A ps c _ ((HR.out.1.1.below (Below.drew HBI.out)).more (Below.drew HBI.out).size) np HM.out (fun p hp => Nat.le_trans (HL.out.1 p hp).2.1 (by decide))).mono ?_
          rintro e w3 ⟨rfl, b3⟩
          have b3' := of_drew b3
          have hHeld := HSS.out w3 b3'
          refine hK.out _ _ hHeld ?_
          clear hK K
          try simp only [List.getElem_toArray, List.getElem_cons_succ, List.getElem_cons_zero, Act.put, List.setIfInBounds_toArray, List.set_cons_zero, List.set_cons_succ]
          have HX3 := hide (HX.out.call b3')
          have HB3 := hide (HBI.out.trans (b3'.mono HBI.out.size))
          clear b3 b3' HX HBI HSS
          cases hs : symOk (ps.map SV.d) (zn, zb, zw, zv)
          · have HV := hide (HF.out (by rw [hs]; rfl))
            clear HF HS hs
            refine Reg.takeT (i := 8) (v := ?_) rfl (by kernel_rfl) (by kernel_rfl) (by kernel_rfl) (by kernel_rfl) (fun _ _ _ h => h) (Or.inl ⟨by rfl, ?_⟩) (by assumption) ?_
            rotate_left 1
            focus (intro w hSw; (try dsimp only at hSw); go_simp; (try with_reducible rfl))
            try simp only [List.getElem_toArray, List.getElem_cons_succ, List.getElem_cons_zero, Act.put, List.setIfInBounds_toArray, List.set_cons_zero, List.set_cons_succ]
            refine Reg.doneT (by kernel_rfl) ?_ _
            clear hHeld
            go_wp2_with fail
            go_ret
            exact ⟨by rw [HV.out]; rfl, HB3.out⟩
          rw [hs] at HS HF
          clear hs
          refine Reg.takeT (i := 8) (v := ?_) rfl (by kernel_rfl) (by kernel_rfl) (by kernel_rfl) (by kernel_rfl) (fun _ _ _ h => h) (Or.inl ⟨by rfl, ?_⟩) (by assumption) ?_
          rotate_left 1
          focus (intro w hSw; (try dsimp only at hSw); go_simp; (try with_reducible rfl))
          try simp only [List.getElem_toArray, List.getElem_cons_succ, List.getElem_cons_zero, Act.put, List.setIfInBounds_toArray, List.set_cons_zero, List.set_cons_succ]
          refine Reg.doneT (by kernel_rfl) ?_ _
          obtain ⟨_, _, z0, z1, z2, z3⟩ := hHeld
          have HZ := hide (And.intro z0 z1)
          have hb3 : b < w3.heap.size := World.block_lt_of_cell? _ _ z0
          clear z0 z1 z2 z3
          go_wp2_with fail
          go_loopw [5] (fun jj wi => ∃ j : Nat, j ≤ k ∧ jj = .int .i64 j ∧ (!decide (zb = 0) && (ys.take j).any (hit zn)) = false ∧ wi.cell? ⟨b, off + k * 4, none⟩ = some (.string zn) ∧ wi.cell? ⟨b, off + k * 4 + 1, none⟩ = some (.int .i64 zb) ∧ Box wi w.heap.size 26 #[.slice A ps.length c, .slice (some ⟨b, off, none⟩) ys.length yc] ∧ Below w.heap.size w wi) (fun jj _ => k - (intOf jj).toNat)
          case atStart => exact ⟨0, Nat.zero_le _, rfl, by simp, HZ.out.1, HZ.out.2, HX3.out, HB3.out⟩
          case round =>
            clear HX3 HB3 HZ hb3 hxl hbw
            obtain ⟨j, hj, rfl, hno, z0, z1, hx, hb⟩ := hrel
            have HX := hide hx
            have HBI := hide hb
            have x0 := hx.cell 0
            have x1 := hx.cell 1
            simp only [List.getElem?_toArray, List.getElem?_cons_zero, List.getElem?_cons_succ] at x0 x1
            have hxl := hx.lt
            by_cases hjk : j < k
            · have hjy : j < ys.length := by omega
              obtain ⟨b', off', hY', hbg', hc⟩ := (HR.out.2.below hb).row symbolC_len (by decide) hjy
              simp only [Option.some.injEq, Addr.mk.injEq, and_true] at hY'
              obtain ⟨rfl, rfl⟩ := hY'
              have hc0 := hc 0 _ rfl
              have hc1 := hc 1 _ rfl
              simp only [Nat.add_zero] at hc0
              have HT := hide (show (!decide (zb = 0) && (ys.take (j + 1)).any (hit zn)) = (!decide (zb = 0) && hit zn ys[j]) by
                rw [take_succ hjy, List.any_append]
                cases hzz : (!decide (zb = 0))
                · rfl
                · rw [hzz, Bool.true_and] at hno
                  rw [hno]
                  simp)
              have HA := hide (show (!decide (zb = 0) && hit zn ys[j]) = true → (!decide (zb = 0) && (ys.take k).any (hit zn)) = true from fun h => by
                rw [Bool.and_eq_true] at h ⊢
                exact ⟨h.1, List.any_eq_true.2 ⟨ys[j], by
                  rw [List.mem_take_iff_getElem]
                  exact ⟨j, by omega, rfl⟩, h.2⟩⟩)
              clear hno hx hb hc
              generalize ys[j] = x at *
              obtain ⟨xn, xb, xw, xv⟩ := x
              simp only [hit] at hc0 hc1 HT HA
              by_cases h1 : xn = zn
              · have e1 : (xn.toList == zn.toList) = true := by rw [str_eq, decide_eq_true h1]
                rw [decide_eq_true h1] at HT HA
                by_cases h2 : xb = 0
                · have e2 : (xb != 0) = false := by rw [h2]; rfl
                  rw [decide_eq_true h2] at HT HA
                  have HT' := hide (show (!decide (zb = 0) && (ys.take (j + 1)).any (hit zn)) = false by rw [HT.out]; simp)
                  clear h1 h2 HT HA
                  go_wp2_with fail
                  go_quiet (fail)
                  go_wp2_with fail
                  refine ⟨⟨j + 1, by omega, by go_num, HT'.out, z0, z1, HX.out.drewN _, Kit.Below.drewN HBI.out _⟩, by simp [intOf]; omega⟩
                · have e2 : (xb != 0) = true := bne_iff_ne.2 h2
                  rw [decide_eq_false h2] at HT HA
                  by_cases h3 : zb = 0
                  · have e3 : (zb != 0) = false := by rw [h3]; rfl
                    rw [decide_eq_true h3] at HT HA
                    have HT' := hide (show (!decide (zb = 0) && (ys.take (j + 1)).any (hit zn)) = false by rw [decide_eq_true h3]; rfl)
                    clear h1 h2 h3 HT HA
                    go_wp2_with fail
                    go_quiet (fail)
                    go_wp2_with fail
                    refine ⟨⟨j + 1, by omega, by go_num, HT'.out, z0, z1, HX.out.drewN _, Kit.Below.drewN HBI.out _⟩, by simp [intOf]; omega⟩
                  · have e3 : (zb != 0) = true := bne_iff_ne.2 h3
                    rw [decide_eq_false h3] at HA
                    have HV := hide (HF.out (by rw [decide_eq_false h3, HA.out rfl]; rfl))
                    clear h1 h2 h3 HT HA
                    go_wp2_with fail
                    go_quiet (fail)
                    go_wp2_with fail
                    go_ret
                    exact ⟨by rw [HV.out]; rfl, Kit.Below.drewN HBI.out _⟩
              · have e1 : (xn.toList == zn.toList) = false := by rw [str_eq, decide_eq_false h1]
                rw [decide_eq_false h1] at HT HA
                have HT' := hide (show (!decide (zb = 0) && (ys.take (j + 1)).any (hit zn)) = false by rw [HT.out]; simp)
                clear h1 HT HA
                go_wp2_with fail
                go_quiet (fail)
                go_wp2_with fail
                refine ⟨⟨j + 1, by omega, by go_num, HT'.out, z0, z1, HX.out.drewN _, Kit.Below.drewN HBI.out _⟩, by simp [intOf]; omega⟩
            · have e : j = k := by omega
              subst e
              have HS' := hide (HS.out (by rw [hno]; rfl))
              clear HS HF hno hx hb x0 x1 z0 z1
              go_wp2_with fail
              refine ⟨⟨j + 1, by omega, by go_num, HS'.out, HX.out, HBI.out⟩, by simp [intOf]; omega⟩
        · have HV := hide ((obj_sizes (d := ⟨ps.map SV.d, ys⟩) HALL.out (fun j hj => HO.out j hj (Nat.lt_of_lt_of_le hj (show ys.length ≤ k by omega)))).trans (show _ = (decide (ps.length ≤ 8) && decide (ys.length ≤ 12)) by simp))
          clear HO hok hx hb
          by_cases h1 : ps.length ≤ 8
          · have e1 : decide ((ps.length : Int) ≤ 8) = true := decide_eq_true (by omega)
            rw [decide_eq_true h1] at HV
            by_cases h2 : ys.length ≤ 12
            · have e2 : decide ((ys.length : Int) ≤ 12) = true := decide_eq_true (by omega)
              rw [decide_eq_true h2] at HV
              clear h1 h2
              go_wp2_with fail
              go_ret
              exact ⟨by rw [HV.out]; rfl, HBI.out⟩
            · have e2 : decide ((ys.length : Int) ≤ 12) = false := decide_eq_false (by omega)
              rw [decide_eq_false h2] at HV
              clear h1 h2
              go_wp2_with fail
              go_ret
              exact ⟨by rw [HV.out]; rfl, HBI.out⟩
          · have e1 : decide ((ps.length : Int) ≤ 8) = false := decide_eq_false (by omega)
            rw [decide_eq_false h1] at HV
            clear h1
            go_wp2_with fail
            go_ret
            exact ⟨by rw [HV.out]; simp, HBI.out⟩
end Go.Proofs.Ytmglgjchemecjaa.CObjValidS
/- The warnings for an object; plain. -/
namespace Go.Proofs.Ytmglgjchemecjaa.PWarn
set_option maxRecDepth 200000
open Go.ChangeShapes Go.WideShapes Go.ChangeAt Go.RowKit Kit CCode CFixups CSymbols PObj BObj PValid CUses CCovers CObjValid
abbrev WD := CWarnings.D
def dS : SD := ⟨ByteArray.empty, 0, 0, [], 0, []⟩
def dY : YD := (ByteArray.empty, 0, 0, 0)
def at1 (d : OD) (k : Nat) : List WD := if (d.ys.getD k dY).2.2.1 = -1 ∧ used d.ss k = false then [(1, (k : Int))] else []
def at2 (d : OD) (k : Nat) : List WD := if secSize (d.ss.getD k dS) = 0 then [(2, (k : Int))] else []
def at3 (d : OD) (k : Nat) : List WD := if coverB (d.ss.getD k dS) = true then [(3, (k : Int))] else []
def upto (f : Nat → List WD) (n : Nat) : List WD := (List.range n).flatMap f
theorem upto_succ (f : Nat → List WD) (n : Nat) : upto f (n + 1) = upto f n ++ f n := by
  unfold upto
  rw [List.range_succ, List.flatMap_append]
  simp
theorem upto_len {f : Nat → List WD} (h : ∀ k, (f k).length ≤ 1) : ∀ n, (upto f n).length ≤ n
  | 0 => by simp [upto]
  | n + 1 => by
    rw [upto_succ, List.length_append]
    have := upto_len h n
    have := h n
    omega
theorem at1_len (d : OD) (k : Nat) : (at1 d k).length ≤ 1 := by unfold at1; split <;> simp
theorem at2_len (d : OD) (k : Nat) : (at2 d k).length ≤ 1 := by unfold at2; split <;> simp
theorem at3_len (d : OD) (k : Nat) : (at3 d k).length ≤ 1 := by unfold at3; split <;> simp
def list (d : OD) : List WD := upto (at1 d) d.ys.length ++ upto (at2 d) d.ss.length ++ upto (at3 d) d.ss.length
def warns (d : OD) : List WD := bif objOk d then list d else []
theorem getS {ps : List SV} {k : Nat} (h : k < ps.length) : (ps.map SV.d).getD k dS = ps[k].d := by
  rw [List.getD_eq_getElem?_getD, List.getElem?_map, List.getElem?_eq_getElem h]
  rfl
theorem fixes_in {many : Int} {n : Nat} : ∀ {e : Int} {fs : List FD}, 0 ≤ e → fixesOk many n e fs = true → ∀ f ∈ fs, 0 ≤ f.1 ∧ f.1 + wide f.2.1 ≤ n
  | _, [], _, _, f, hf => by cases hf
  | e, g :: fs, he, h, f, hf => by
    simp only [fixesOk, Bool.and_eq_true] at h
    have hg := fixOk_iff.1 h.1
    have hw := wide_bd g.2.1
    rcases List.mem_cons.1 hf with rfl | hf
    · omega
    · exact fixes_in (by omega) h.2 f hf
theorem sec_in {many : Int} {d : SD} (h : secOk many d = true) : InB d.zs d.fs := by
  rw [secOk, Bool.and_eq_true] at h
  obtain ⟨_, h⟩ := h
  split at h
  · simp only [blankOk, Bool.and_eq_true, decide_eq_true_eq] at h
    have : d.fs = [] := List.eq_nil_of_length_eq_zero h.2
    rw [this]
    intro f hf
    cases hf
  · simp only [bodyOk, Bool.and_eq_true] at h
    exact fixes_in (Int.le_refl 0) h.2
theorem obj_facts {d : OD} (h : objOk d = true) : d.ss.length ≤ 8 ∧ d.ys.length ≤ 12 ∧ ∀ s ∈ d.ss, InB s.zs s.fs := by
  simp only [objOk, Bool.and_eq_true, decide_eq_true_eq, List.all_eq_true] at h
  exact ⟨h.1.1.1, h.1.1.2, fun s hs => sec_in (h.1.2 s hs)⟩
theorem list_len {d : OD} (h1 : d.ss.length ≤ 8) (h2 : d.ys.length ≤ 12) : (list d).length ≤ 28 := by
  unfold list
  rw [List.length_append, List.length_append]
  have := upto_len (at1_len d) d.ys.length
  have := upto_len (at2_len d) d.ss.length
  have := upto_len (at3_len d) d.ss.length
  omega
def RetW (L : List WD) (w : World) (e : Ending) (w' : World) : Prop := ∃ A c, e = .returned (.slice A L.length c) ∧ Row w' w.heap.size 31 2 A L.length c (cellsOf CWarnings.warningC L) ∧ Below w.heap.size w w'
end Go.Proofs.Ytmglgjchemecjaa.PWarn
/- Clearing what fixups fill: plain; and the stores that do it. -/
namespace Go.Proofs.Ytmglgjchemecjaa.PClear
set_option maxRecDepth 200000
open Go.ChangeShapes Go.WideShapes Go.ChangeAt Go.RowKit Kit CFixups CSymbols PObj BObj CMarkRows PValid BStore CCovers PWarn
def setz (zs : List Int) (a : Nat) : Nat → List Int
  | 0 => zs
  | n + 1 => (setz zs a n).set (a + n) 0
theorem setz_len (zs : List Int) (a : Nat) : ∀ n, (setz zs a n).length = zs.length
  | 0 => rfl
  | n + 1 => by rw [setz, List.length_set, setz_len zs a n]
def clr (zs : List Int) (f : FD) : List Int := setz zs f.1.toNat (wide f.2.1).toNat
theorem clr_len (zs : List Int) (f : FD) : (clr zs f).length = zs.length := setz_len _ _ _
def clrs (zs : List Int) (fs : List FD) : List Int := fs.foldl clr zs
theorem clrs_len (fs : List FD) : ∀ zs, (clrs zs fs).length = zs.length := by
  induction fs with
  | nil => intro zs; rfl
  | cons f fs ih => intro zs; rw [clrs, List.foldl_cons, ← clrs, ih, clr_len]
theorem clrs_snoc (zs : List Int) (fs : List FD) (f : FD) : clrs zs (fs ++ [f]) = clr (clrs zs fs) f := by simp [clrs, List.foldl_append]
def clrP (p : SV) (fs : List FD) : SV := { p with zs := clrs p.zs fs }
def clrA (p : SV) : SV := clrP p p.fs
theorem clrP_nil (p : SV) : clrP p [] = p := rfl
theorem clrP_cells (p : SV) (fs : List FD) : secC (clrP p fs) = secC p := by simp [secC, clrP, clrs_len]
def clearS (s : SD) : SD := { s with zs := clrs s.zs s.fs }
def clearD (d : OD) : OD := bif objOk d then ⟨d.ss.map clearS, d.ys⟩ else ⟨[], []⟩
theorem clear_bad {d : OD} (h : objOk d = false) : clearD d = ⟨[], []⟩ := by rw [clearD, h]; rfl
theorem clear_ok {ps : List SV} {ys : List YD} (h : objOk ⟨ps.map SV.d, ys⟩ = true) : clearD ⟨ps.map SV.d, ys⟩ = ⟨(ps.map clrA).map SV.d, ys⟩ := by
  rw [clearD, h, cond_true, List.map_map, List.map_map]
  rfl
/-- What the clearing of a valid object needs. -/
def FxOk (p : SV) : Prop := ∀ f ∈ p.fs, 0 ≤ f.1 ∧ f.1 + wide f.2.1 ≤ p.zs.length ∧ 0 < wide f.2.1
theorem fixes_all {many : Int} {n : Nat} : ∀ {e : Int} {fs : List FD}, 0 ≤ e → fixesOk many n e fs = true → ∀ f ∈ fs, (0 ≤ f.1 ∧ f.1 + wide f.2.1 ≤ n ∧ 0 < wide f.2.1) ∧ 0 ≤ f.2.2.1 ∧ f.2.2.1 < many
  | _, [], _, _, f, hf => by cases hf
  | e, g :: fs, he, h, f, hf => by
    simp only [fixesOk, Bool.and_eq_true] at h
    have hg := fixOk_iff.1 h.1
    have hw := wide_bd g.2.1
    rcases List.mem_cons.1 hf with rfl | hf
    · omega
    · exact fixes_all (by omega) h.2 f hf
theorem sec_all {many : Int} {d : SD} (h : secOk many d = true) : d.fs.length ≤ 6 ∧ d.zs.length ≤ 48 ∧ ∀ f ∈ d.fs, (0 ≤ f.1 ∧ f.1 + wide f.2.1 ≤ d.zs.length ∧ 0 < wide f.2.1) ∧ 0 ≤ f.2.2.1 ∧ f.2.2.1 < many := by
  rw [secOk, Bool.and_eq_true] at h
  obtain ⟨_, h⟩ := h
  split at h
  · simp only [blankOk, Bool.and_eq_true, decide_eq_true_eq] at h
    have : d.fs = [] := List.eq_nil_of_length_eq_zero h.2
    rw [this]
    refine ⟨by simp, by omega, ?_⟩
    intro f hf
    cases hf
  · simp only [bodyOk, Bool.and_eq_true, decide_eq_true_eq] at h
    exact ⟨h.1.2, h.1.1.2, fixes_all (Int.le_refl 0) h.2⟩
theorem obj_all {d : OD} (h : objOk d = true) : d.ss.length ≤ 8 ∧ d.ys.length ≤ 12 ∧ ∀ s ∈ d.ss, s.fs.length ≤ 6 ∧ s.zs.length ≤ 48 ∧ ∀ f ∈ s.fs, (0 ≤ f.1 ∧ f.1 + wide f.2.1 ≤ s.zs.length ∧ 0 < wide f.2.1) ∧ 0 ≤ f.2.2.1 ∧ f.2.2.1 < d.ys.length := by
  simp only [objOk, Bool.and_eq_true, decide_eq_true_eq, List.all_eq_true] at h
  exact ⟨h.1.1.1, h.1.1.2, fun s hs => sec_all (h.1.2 s hs)⟩
/-- A section's cells in the row of sections. -/
theorem row_at {w : World} {B : Nat} {A : Option Addr} {l1 l2 : List SV} {q : SV} (h : RdSs w B A (l1 ++ q :: l2)) :
    ∃ b off, A = some ⟨b, off, none⟩ ∧ b < B ∧ ∀ j u, (secC q)[j]? = some u → w.cell? ⟨b, off + l1.length * 6 + j, none⟩ = some u := by
  obtain ⟨b, off, hA, hb, hc⟩ := h.1.row secC_len (by decide) (show l1.length < (l1 ++ q :: l2).length by simp)
  refine ⟨b, off, hA, hb, fun j u hu => hc j u ?_⟩
  rw [List.getElem_append_right (Nat.le_refl _)]
  simpa using hu
/-- Bytes cleared at once. -/
theorem OwnO.clear {base c yc : Nat} {A Y : Option Addr} {l1 l2 : List SV} {q : SV} {ys : List YD} {g : Nat} (hA : q.A = some ⟨g, 0, none⟩) (a : Nat) :
    ∀ (n : Nat) (w : World), a + n ≤ q.zs.length → OwnO w base ⟨A, c, l1 ++ q :: l2, Y, yc, ys⟩ →
    OwnO (w.setCells g a (List.replicate n (.int .u8 0))) base ⟨A, c, l1 ++ { q with zs := setz q.zs a n } :: l2, Y, yc, ys⟩
  | 0, w, _, h => h
  | n + 1, w, hn, h => by
    rw [List.replicate_succ', ← Lib.setCells_snoc_w, List.length_replicate]
    exact OwnO.storeB (OwnO.clear hA a n w (by omega) h) hA (a + n) (by simp only [setz_len]; omega) 0
theorem clear_block (g : Nat) (k : Nat) (hk : k ≠ g) : ∀ (vs : List Value) (o : Nat) (w : World), (w.setCells g o vs).heap[k]? = w.heap[k]?
  | [], _, _ => rfl
  | v :: vs, o, w => by
    rw [World.setCells, clear_block g k hk vs]
    exact Below.heap_setCell _ _ _ k hk
theorem clear_box {w : World} {X g o : Nat} {t : TypeId} {cs : Array Value} {vs : List Value} (h : Box w X t cs) (hne : X ≠ g) : Box (w.setCells g o vs) X t cs := (clear_block g X hne vs o w).trans h
theorem zero8 (w : World) : (zeroValue 5).run Try.prog w = .ok (.int .u8 0) w := by
  have e : Try.t5.zero = some (.int .u8 0) := by kernel_rfl
  simp [zeroValue, e]
theorem step_clear {ops : Array Oper} {o : Oper} {a : Act} {w : World} {K : Act → World → Prop} {Q : Exit → Act → World → Prop} {E : Prop} (hgd : o.guard = none) (s : Operand)
    (ho : o.op = .call { callee := .builtin .clear, args := #[s], argTypes := #[22] }) (b off n c : Nat) (hs : a.eval s = .slice (some ⟨b, off, none⟩) n c) (hn : 0 < n)
    (hc : ∀ j, j < n → (w.cell? ⟨b, off + j, none⟩).isSome = true) (hf : ∀ j, j < n → w.frozen? ⟨b, off + j, none⟩ = false)
    (h : K (a.put o.dst (.tuple #[])) (w.setCells b off (List.replicate n (.int .u8 0)))) :
    if Region.wanted o (yielded ops a.tmps) = true then Oper.wp Try.prog o a w K Q else E := by
  have hw : Region.wanted o (yielded ops a.tmps) = true := by simp [Region.wanted, hgd]
  rw [if_pos hw]
  have hrun := Lib.run_clear_slice (P := Try.prog) w 22 5 o.type (.int .u8 0) Try.underlying22 zero8 rfl rfl b off n c hn hc hf
  unfold Oper.wp
  simp [execOp, ho, resolve, invoke, builtin, hs, hrun, Result.andThen]
  exact (show K _ _ from by simpa using h)
end Go.Proofs.Ytmglgjchemecjaa.PClear
/- What the walks of exact laws on objects share. -/
namespace Go.Proofs.Ytmglgjchemecjaa.WObj
set_option maxRecDepth 200000
open Go.ChangeShapes Go.WideShapes Go.ChangeAt Go.RowKit Kit CCode CFixups CSymbols PObj BObj PValid CObjValid CSections CObject CObject2 CMarkRows
def sumD (d : OD) : Int := (d.ss.length : Int) + tot d.ss + d.ys.length + toty d.ys
theorem sum_D (o : OV) : sum o = sumD o.d := by simp [sum, sumD, OV.d]
theorem sum_d {o o' : OV} (h : o'.d = o.d) : sum o' = sum o := by rw [sum_D, sum_D, h]
theorem sumD_nonneg (d : OD) : 0 ≤ sumD d := by
  have h1 := tot_nonneg d.ss
  have h2 := toty_nonneg d.ys
  unfold sumD
  omega
theorem fit_own {o : OV} {w : World} {base : Nat} (hs : sum o ≤ 1048576) (ho : OwnO w base o) : Fit o ∧ (∀ p ∈ o.ps, p.zs.length ≤ p.c) := by
  obtain ⟨⟨l1, l2, l3⟩, l4, l5⟩ := sum_lim hs
  have hmx : (1048576 : Nat) ≤ maxLen := by decide
  refine ⟨⟨l1, l2, ho.2.cap.1, fun p hp => ⟨Nat.le_trans (l4 p hp) hmx, (l3 p hp).1, (l3 p hp).2⟩, fun y hy => Nat.le_trans (l5 y hy) hmx⟩, fun p hp => ((ho.1.2.1 p hp).1).cap.1⟩
theorem RdO.call2 {w w' : World} {o : OV} (h : RdO w w.heap.size o) (hb : Below w.heap.size w w') : RdO w' w'.heap.size o := (h.below hb).more hb.size
theorem own_up {w : World} {base b : Nat} {o : OV} (h : OwnO w base o) (hb : ∀ k, oblk o k → b ≤ k) : OwnO w b o :=
  ⟨⟨h.1.1.up (fun k hk => hb k (.inl (.inl hk))), fun p hp => ⟨(h.1.2.1 p hp).1.up (fun k hk => hb k (.inl (.inr ⟨p, hp, .inl hk⟩))), (h.1.2.1 p hp).2.up (fun k hk => hb k (.inl (.inr ⟨p, hp, .inr hk⟩)))⟩, h.1.2.2⟩, h.2.up (fun k hk => hb k (.inr hk))⟩
/-- A mark in the memory of another: the same sum. -/
theorem tot_map {f : SD → SD} (hf : ∀ s, wt (f s) = wt s) : ∀ ds : List SD, tot (ds.map f) = tot ds
  | [] => rfl
  | d :: ds => by
    have := tot_map hf ds
    simp [tot, hf, this]
theorem clear_sum (d : OD) : sumD (PClear.clearD d) ≤ sumD d := by
  have h0 := sumD_nonneg d
  unfold PClear.clearD
  cases objOk d
  · simpa [sumD, tot, toty] using h0
  · simp only [sumD, cond_true, List.length_map]
    rw [tot_map (fun s => by simp [wt, PClear.clearS, PClear.clrs_len])]
    exact Int.le_refl _
end Go.Proofs.Ytmglgjchemecjaa.WObj
/- The order of symbols; plain. -/
namespace Go.Proofs.Ytmglgjchemecjaa.PSort
set_option maxRecDepth 200000
open Go.ChangeShapes Go.WideShapes Go.ChangeAt Go.RowKit Kit CFixups CSymbols PObj BObj PValid PWarn PClear WObj
def sl (a b : ByteArray) : Bool := Op.bytesLess a.toList b.toList
def loc (y : YD) : Bool := y.2.1 == 0
def bef (a b : YD) : Bool := bif loc a != loc b then loc a else sl a.1 b.1
def cmpS (a b : ByteArray) : Int := if sl a b = true then -1 else if (a.toList == b.toList) = true then 0 else 1
def grp (y : YD) : Int := if loc y = true then 0 else 1
def cmpN (a b : Int) : Int := if a < b then -1 else if b < a then 1 else 0
def cmpY (a b : YD) : Int := if cmpN (grp a) (grp b) ≠ 0 then cmpN (grp a) (grp b) else cmpS a.1 b.1
theorem cmp_lt (a b : YD) : decide (cmpY a b < 0) = bef a b := by
  unfold cmpY bef grp cmpN cmpS
  cases loc a <;> cases loc b <;> simp
  cases sl a.1 b.1
  · simp
    split <;> simp
  · simp
  · cases sl a.1 b.1
    · simp
      split <;> simp
    · simp
theorem cmp_bd (a b : YD) : -1 ≤ cmpY a b ∧ cmpY a b ≤ 1 := by
  unfold cmpY cmpN cmpS
  split <;> (repeat' split) <;> omega
section
variable (bf : Nat → Nat → Bool)
def pos (L : List Nat) (x : Nat) : Nat → Nat
  | 0 => 0
  | n + 1 => if bf x (L.getD n 0) = true then pos L x n else n + 1
def ins (L : List Nat) (x : Nat) : List Nat := L.take (pos bf L x L.length) ++ x :: L.drop (pos bf L x L.length)
def ord : Nat → List Nat
  | 0 => []
  | k + 1 => ins bf (ord k) k
theorem ins_perm (L : List Nat) (x : Nat) : (ins bf L x).Perm (x :: L) := by
  unfold ins
  refine List.perm_middle.trans (List.Perm.cons x ?_)
  rw [List.take_append_drop]
theorem ord_perm : ∀ n, (ord bf n).Perm (List.range n)
  | 0 => by simp [ord]
  | n + 1 => by
    rw [ord, List.range_succ]
    refine (ins_perm bf _ n).trans ((List.Perm.cons n (ord_perm n)).trans ?_)
    exact (List.perm_append_comm (l₁ := [n]) (l₂ := List.range n))
theorem ord_len (n : Nat) : (ord bf n).length = n := by rw [(ord_perm bf n).length_eq, List.length_range]
theorem ord_lt {n x : Nat} (h : x ∈ ord bf n) : x < n := List.mem_range.1 ((ord_perm bf n).mem_iff.1 h)
theorem ord_mem {n x : Nat} (h : x < n) : x ∈ ord bf n := (ord_perm bf n).mem_iff.2 (List.mem_range.2 h)
theorem ord_nodup (n : Nat) : (ord bf n).Nodup := (ord_perm bf n).nodup_iff.2 List.nodup_range
theorem ord_get {n k : Nat} (h : k < n) : (ord bf n).getD k 0 < n := by
  have hk : k < (ord bf n).length := by rw [ord_len]; exact h
  rw [List.getD_eq_getElem?_getD, List.getElem?_eq_getElem hk]
  exact ord_lt bf (List.getElem_mem hk)
end
/-- One swap of the insertion sort. -/
theorem swap_row (L : List Nat) (x j : Nat) (rest : List Nat) (h : j < L.length) : ((L.take (j + 1) ++ x :: L.drop (j + 1) ++ rest).set (j + 1) (L.getD j 0)).set j x = L.take j ++ x :: L.drop j ++ rest := by
  have h1 : L.take (j + 1) = L.take j ++ [L[j]] := take_succ h
  have h2 : L.drop j = L[j] :: L.drop (j + 1) := List.drop_eq_getElem_cons h
  have h3 : (L.take j).length = j := by rw [List.length_take]; omega
  have h4 : L.getD j 0 = L[j] := by rw [List.getD_eq_getElem?_getD, List.getElem?_eq_getElem h]; rfl
  rw [h1, h2, h4]
  generalize L.take j = T at *
  subst h3
  simp [List.set_append]
  rw [h2]
  rfl
theorem row_x (L : List Nat) (x j : Nat) (rest : List Nat) (h : j ≤ L.length) : (L.take j ++ x :: L.drop j ++ rest).getD j 0 = x := by
  have h3 : (L.take j).length = j := by rw [List.length_take]; omega
  rw [List.getD_eq_getElem?_getD, List.append_assoc, List.getElem?_append_right (by omega), h3]
  simp
theorem row_p (L : List Nat) (x j : Nat) (rest : List Nat) (h : j < L.length) : (L.take (j + 1) ++ x :: L.drop (j + 1) ++ rest).getD j 0 = L.getD j 0 := by
  have h3 : (L.take (j + 1)).length = j + 1 := by rw [List.length_take]; omega
  rw [List.getD_eq_getElem?_getD, List.append_assoc, List.getElem?_append_left (by omega), List.getElem?_take_of_lt (by omega), ← List.getD_eq_getElem?_getD]
def bfY (ys : List YD) (i j : Nat) : Bool := bef (ys.getD i dY) (ys.getD j dY)
def order (ys : List YD) : List Nat := ord (bfY ys) ys.length
def renum (L : List Nat) (f : FD) : FD := (f.1, f.2.1, ((L.idxOf f.2.2.1.toNat : Nat) : Int), f.2.2.2)
def sortS (L : List Nat) (s : SD) : SD := { s with fs := s.fs.map (renum L) }
def sortD (d : OD) : OD := bif objOk d then ⟨d.ss.map (sortS (order d.ys)), (order d.ys).map fun i => d.ys.getD i dY⟩ else ⟨[], []⟩
theorem toty_perm {a b : List YD} (h : a.Perm b) : toty a = toty b := by
  induction h with
  | nil => rfl
  | cons x _ ih => simp [toty, ih]
  | swap x y l => simp only [toty]; omega
  | trans _ _ h1 h2 => exact h1.trans h2
theorem map_range (ys : List YD) : (List.range ys.length).map (fun i => ys.getD i dY) = ys := by
  apply List.ext_getElem
  · simp
  · intro i h1 h2
    simp [List.getD_eq_getElem?_getD, List.getElem?_eq_getElem h2]
theorem sort_sum (d : OD) : sumD (sortD d) ≤ sumD d := by
  have h0 := sumD_nonneg d
  unfold sortD
  cases objOk d
  · simpa [sumD, tot, toty] using h0
  · simp only [sumD, cond_true, List.length_map]
    rw [tot_map (fun s => by simp [wt, sortS]), show (order d.ys).length = d.ys.length from ord_len _ _]
    have h := (ord_perm (bfY d.ys) d.ys.length).map (fun i => d.ys.getD i dY)
    rw [map_range] at h
    rw [toty_perm (show ((order d.ys).map fun i => d.ys.getD i dY).Perm d.ys from h)]
    exact Int.le_refl _
theorem sort_bad {d : OD} (h : objOk d = false) : sortD d = ⟨[], []⟩ := by rw [sortD, h]; rfl
/-- A section with its fixups numbered anew. -/
def renP (L : List Nat) (p : SV) : SV := { p with fs := p.fs.map (renum L) }
def renJ (L : List Nat) (p : SV) (j : Nat) : SV := { p with fs := (p.fs.take j).map (renum L) ++ p.fs.drop j }
theorem renJ_zero (L : List Nat) (p : SV) : renJ L p 0 = p := by simp [renJ]
theorem renJ_all (L : List Nat) (p : SV) {j : Nat} (h : p.fs.length ≤ j) : renJ L p j = renP L p := by
  simp [renJ, renP, List.take_of_length_le h, List.drop_of_length_le h]
theorem renJ_len (L : List Nat) (p : SV) (j : Nat) : (renJ L p j).fs.length = p.fs.length := by simp [renJ]; omega
theorem renJ_cells (L : List Nat) (p : SV) (j : Nat) : secC (renJ L p j) = secC p := by
  simp only [secC, renJ_len]
  rfl
theorem renJ_at (L : List Nat) (p : SV) (j : Nat) (h : j < p.fs.length) : (renJ L p j).fs[j]? = some p.fs[j] := by
  simp only [renJ]
  rw [List.getElem?_append_right (by simp; omega)]
  simp [List.length_take, Nat.min_eq_left (Nat.le_of_lt h), List.getElem?_eq_getElem h]
theorem renJ_succ (L : List Nat) (p : SV) (j : Nat) (h : j < p.fs.length) : renJ L p (j + 1) = { renJ L p j with fs := (renJ L p j).fs.set j (renum L p.fs[j]) } := by
  have h1 : p.fs.take (j + 1) = p.fs.take j ++ [p.fs[j]] := take_succ h
  have h2 : p.fs.drop j = p.fs[j] :: p.fs.drop (j + 1) := List.drop_eq_getElem_cons h
  have h3 : (p.fs.take j).length = j := by rw [List.length_take]; omega
  simp only [renJ, SV.mk.injEq, true_and]
  rw [h1, h2]
  generalize p.fs.take j = T at *
  subst h3
  simp [List.set_append]
  rw [h2]
  rfl
theorem sort_ok {ps : List SV} {ys : List YD} (h : objOk ⟨ps.map SV.d, ys⟩ = true) : sortD ⟨ps.map SV.d, ys⟩ = ⟨(ps.map (renP (order ys))).map SV.d, (order ys).map fun i => ys.getD i dY⟩ := by
  rw [sortD, h, cond_true, List.map_map, List.map_map]
  rfl
end Go.Proofs.Ytmglgjchemecjaa.PSort
/- Contracts of PutNumber and GetNumber, the program's and the reference's. -/
namespace Go.Proofs.Ytmglgjchemecjaa.CNumber
set_option maxRecDepth 200000
open Go.ChangeShapes Go.WideShapes Go.ChangeAt Go.RowKit Kit CCode
theorem info8 : (Try.prog.info? 5).map (fun i => (i.zero, i.size, i.bytes)) = some (some (.int .u8 0), 1, 1) := by kernel_rfl
/-- The w lowest bytes of a number, the lowest one first. -/
def putL : Nat → Int → List Int
  | 0, _ => []
  | w + 1, n => n % 256 :: putL w (n / 256)
theorem putL_len : ∀ (w : Nat) (n : Int), (putL w n).length = w
  | 0, _ => rfl
  | w + 1, n => by simp [putL, putL_len w]
theorem putL_bd : ∀ (w : Nat) (n : Int), InR 0 255 (putL w n)
  | 0, _ => fun x hx => by simp [putL] at hx
  | w + 1, n => fun x hx => by
    rcases List.mem_cons.1 hx with rfl | hx
    · omega
    · exact putL_bd w _ x hx
def all : Int → Int := fun w => if w = 1 then 255 else if w = 2 then 65535 else if w = 3 then 16777215 else 4294967295
def pnum (n wide : Int) : List Int := if inB wide 1 4 = true ∧ inB n 0 (all wide) = true then putL wide.toNat n else []
theorem putL_step {w w' : Nat} {m : Int} (h : w = w' + 1) : putL w m = m % 256 :: putL w' (m / 256) := by rw [h]; rfl
def powI : Int → Int := fun w => if w = 1 then 256 else if w = 2 then 65536 else if w = 3 then 16777216 else 4294967296
def p256 : Nat → Int
  | 0 => 1
  | k + 1 => 256 * p256 k
theorem p256_bd {k : Nat} (h : k < 4) : 0 ≤ p256 k ∧ p256 k ≤ 16777216 := by
  obtain rfl | rfl | rfl | rfl : k = 0 ∨ k = 1 ∨ k = 2 ∨ k = 3 := by omega
  all_goals simp [p256]
theorem p256_pow {k : Nat} (h : 1 ≤ k ∧ k ≤ 4) : p256 k = powI k := by
  obtain rfl | rfl | rfl | rfl : k = 1 ∨ k = 2 ∨ k = 3 ∨ k = 4 := by omega
  all_goals simp [p256, powI]
theorem power_any (W : Nat) (hW : 1 ≤ W ∧ W ≤ 4) (w : World) : Calls Try.prog 181 #[.int .i64 W] w (Pure (.int .i64 (powI W)) w) := by
  go_enter Try.func181, Try.ntmps181
  go_wp2_with fail
  go_loop [3, 4] (fun n i => ∃ k : Nat, k ≤ W ∧ i = .int .i64 k ∧ n = .int .i64 (p256 k)) (fun _ i => W - (intOf i).toNat)
  case atStart => exact ⟨0, by omega, rfl, rfl⟩
  case round =>
    obtain ⟨k, hk, rfl, rfl⟩ := hrel
    by_cases hlt : k < W
    · obtain ⟨b0, b1⟩ := p256_bd (k := k) (by omega)
      have HS := hide (show p256 (k + 1) = 256 * p256 k from rfl)
      generalize p256 k = q at *
      go_wp2_with fail
      go_round
      case rel => exact ⟨k + 1, by omega, by go_num, by rw [HS.out]⟩
      case measure => simp [intOf]; omega
    · have e : k = W := by omega
      subst e
      have HS := hide (p256_pow hW)
      go_wp2_with fail
      go_ret
      exact ⟨ret_int HS.out, rfl⟩
theorem putNumber_go (n : Int) (W : Nat) (w : World) (hW : 1 ≤ W ∧ W ≤ 4) (h0 : 0 ≤ n) (h1 : n ≤ all W) : Calls Try.prog 137 #[.int .i64 n, .int .i64 W] w (RetInts 5 .u8 (putL W n) w) := by
  obtain ⟨i0, hi, hz0, hz1, hz2⟩ := info_parts info8
  have hn : n ≤ 4294967295 := by unfold all at h1; split at h1 <;> (try split at h1) <;> (try split at h1) <;> omega
  have hA := inB_t (n := n) (lo := 0) (hi := all W) ⟨h0, h1⟩
  have ho0 := hide (own_empty (w := w) (E := 5))
  have hb0 : Hid (Below w.heap.size w (w.alloc (.cells #[] 5))) := (by repeat (first | exact Below.refl _ _ | with_reducible assumption | (refine Below.drew ?_) | (refine Below.drewN ?_ _) | (refine Below.alloc ?_ (by simp; try omega) _) | (refine Below.setCell ?_ (by simp; try omega) _)))
  obtain rfl | rfl | rfl | rfl : W = 1 ∨ W = 2 ∨ W = 3 ∨ W = 4 := by omega
  · have hb : inB 1 1 4 = true := by decide
    have hA' : inB n 0 255 = true := hA
    clear hA h1
    go_enter Try.func137, Try.ntmps137
    go_wp2_with (first | (go_at_call 115; refine (within_any _ _ _ _).mono ?_; rintro e w' ⟨rfl, rfl⟩) | (go_at_call 110; refine (l1In_any _ _ _ _).mono ?_; rintro e w' ⟨rfl, rfl⟩) | fail)
    clear hb hA'
    go_loopw [0, 5, 21] (fun n' v i wr => ∃ (k : Nat) (m : Int) (pre : List Int) (A : Option Addr) (l c : Nat), k ≤ 1 ∧ i = .int .i64 k ∧ n' = .int .i64 m ∧ 0 ≤ m ∧ m ≤ 4294967295 ∧ v = .slice A l c ∧ l = pre.length ∧ l = k ∧ pre ++ putL (1 - k) m = putL 1 n ∧ wr.ownsRow w.heap.size 5 1 (.slice A l c) l (ints .u8 pre) ∧ Below w.heap.size w wr) (fun _ _ i _ => 1 - (intOf i).toNat)
    case atStart => exact ⟨0, n, [], _, _, _, by omega, rfl, rfl, h0, hn, rfl, rfl, rfl, rfl, ho0.out, hb0.out⟩
    case round =>
      obtain ⟨k, m, pre, A, l, c, hk, rfl, rfl, m0, m1, rfl, hl, hlk, hpre, ho, hb⟩ := hrel
      have HL := hide hl
      have HP := hide hpre
      have HO := hide ho
      have HB := hide hb
      have HK := hide hlk
      have hl4 : l ≤ 4 := by omega
      clear hl hpre ho hb hlk h0 hn
      by_cases hlt : k < 1
      · have HS := hide (putL_step (m := m) (show 1 - k = (1 - (k + 1)) + 1 by omega))
        go_wp2_with (at_builtin; refine wpList_app1 wr rfl (.tmp 23) (.tmp 26) 22 rfl w.heap.size 5 i0 (.int .u8 0) 1 1 Try.underlying22 hi hz0 hz1 hz2 rfl (by decide) _ rfl rfl ?o1 _ _ _ rfl HO.out ?n1 ?n2 ?n3 ?_)
        case o1 => first | rfl | (simp; done) | (intro u hu; simp at hu; subst hu; rfl)
        case n1 => unfold maxLen; omega
        case n2 => omega
        case n3 => exact HB.out.size
        intro A' n' c' w' hn' ho' hg'
        subst hn'
        have HO' := hide ho'
        have HB' := hide (HB.out.grown hg' HB.out.size (fun k hk => (HO.out.lt k hk).1))
        clear ho' hg'
        go_wp2_with fail
        refine ⟨⟨k + 1, m / 256, pre ++ [m % 256], A', l + 1, c', by omega, by go_num, rfl, by omega, by omega, rfl, ?_, ?_, ?_, ?_, HB'.out⟩, by simp [intOf]; omega⟩
        · rw [HL.out]; simp
        · rw [HK.out]
        · rw [List.append_assoc, ← HP.out, HS.out]; rfl
        · rw [← ints_snoc]
          first | exact HO'.out | (simpa using HO'.out)
      · have e : 1 - k = 0 := by omega
        have HV := hide (show putL 1 n = pre by rw [← HP.out, e]; simp [putL])
        clear e
        go_wp2_with fail
        go_ret
        exact HV.out ▸ RetInts.mk HL.out HO.out HB.out
  · have hb : inB 2 1 4 = true := by decide
    have hA' : inB n 0 65535 = true := hA
    clear hA h1
    go_enter Try.func137, Try.ntmps137
    go_wp2_with (first | (go_at_call 115; refine (within_any _ _ _ _).mono ?_; rintro e w' ⟨rfl, rfl⟩) | (go_at_call 110; refine (l1In_any _ _ _ _).mono ?_; rintro e w' ⟨rfl, rfl⟩) | fail)
    clear hb hA'
    go_loopw [0, 5, 21] (fun n' v i wr => ∃ (k : Nat) (m : Int) (pre : List Int) (A : Option Addr) (l c : Nat), k ≤ 2 ∧ i = .int .i64 k ∧ n' = .int .i64 m ∧ 0 ≤ m ∧ m ≤ 4294967295 ∧ v = .slice A l c ∧ l = pre.length ∧ l = k ∧ pre ++ putL (2 - k) m = putL 2 n ∧ wr.ownsRow w.heap.size 5 1 (.slice A l c) l (ints .u8 pre) ∧ Below w.heap.size w wr) (fun _ _ i _ => 2 - (intOf i).toNat)
    case atStart => exact ⟨0, n, [], _, _, _, by omega, rfl, rfl, h0, hn, rfl, rfl, rfl, rfl, ho0.out, hb0.out⟩
    case round =>
      obtain ⟨k, m, pre, A, l, c, hk, rfl, rfl, m0, m1, rfl, hl, hlk, hpre, ho, hb⟩ := hrel
      have HL := hide hl
      have HP := hide hpre
      have HO := hide ho
      have HB := hide hb
      have HK := hide hlk
      have hl4 : l ≤ 4 := by omega
      clear hl hpre ho hb hlk h0 hn
      by_cases hlt : k < 2
      · have HS := hide (putL_step (m := m) (show 2 - k = (2 - (k + 1)) + 1 by omega))
        go_wp2_with (at_builtin; refine wpList_app1 wr rfl (.tmp 23) (.tmp 26) 22 rfl w.heap.size 5 i0 (.int .u8 0) 1 1 Try.underlying22 hi hz0 hz1 hz2 rfl (by decide) _ rfl rfl ?o1 _ _ _ rfl HO.out ?n1 ?n2 ?n3 ?_)
        case o1 => first | rfl | (simp; done) | (intro u hu; simp at hu; subst hu; rfl)
        case n1 => unfold maxLen; omega
        case n2 => omega
        case n3 => exact HB.out.size
        intro A' n' c' w' hn' ho' hg'
        subst hn'
        have HO' := hide ho'
        have HB' := hide (HB.out.grown hg' HB.out.size (fun k hk => (HO.out.lt k hk).1))
        clear ho' hg'
        go_wp2_with fail
        refine ⟨⟨k + 1, m / 256, pre ++ [m % 256], A', l + 1, c', by omega, by go_num, rfl, by omega, by omega, rfl, ?_, ?_, ?_, ?_, HB'.out⟩, by simp [intOf]; omega⟩
        · rw [HL.out]; simp
        · rw [HK.out]
        · rw [List.append_assoc, ← HP.out, HS.out]; rfl
        · rw [← ints_snoc]
          first | exact HO'.out | (simpa using HO'.out)
      · have e : 2 - k = 0 := by omega
        have HV := hide (show putL 2 n = pre by rw [← HP.out, e]; simp [putL])
        clear e
        go_wp2_with fail
        go_ret
        exact HV.out ▸ RetInts.mk HL.out HO.out HB.out
  · have hb : inB 3 1 4 = true := by decide
    have hA' : inB n 0 16777215 = true := hA
    clear hA h1
    go_enter Try.func137, Try.ntmps137
    go_wp2_with (first | (go_at_call 115; refine (within_any _ _ _ _).mono ?_; rintro e w' ⟨rfl, rfl⟩) | (go_at_call 110; refine (l1In_any _ _ _ _).mono ?_; rintro e w' ⟨rfl, rfl⟩) | fail)
    clear hb hA'
    go_loopw [0, 5, 21] (fun n' v i wr => ∃ (k : Nat) (m : Int) (pre : List Int) (A : Option Addr) (l c : Nat), k ≤ 3 ∧ i = .int .i64 k ∧ n' = .int .i64 m ∧ 0 ≤ m ∧ m ≤ 4294967295 ∧ v = .slice A l c ∧ l = pre.length ∧ l = k ∧ pre ++ putL (3 - k) m = putL 3 n ∧ wr.ownsRow w.heap.size 5 1 (.slice A l c) l (ints .u8 pre) ∧ Below w.heap.size w wr) (fun _ _ i _ => 3 - (intOf i).toNat)
    case atStart => exact ⟨0, n, [], _, _, _, by omega, rfl, rfl, h0, hn, rfl, rfl, rfl, rfl, ho0.out, hb0.out⟩
    case round =>
      obtain ⟨k, m, pre, A, l, c, hk, rfl, rfl, m0, m1, rfl, hl, hlk, hpre, ho, hb⟩ := hrel
      have HL := hide hl
      have HP := hide hpre
      have HO := hide ho
      have HB := hide hb
      have HK := hide hlk
      have hl4 : l ≤ 4 := by omega
      clear hl hpre ho hb hlk h0 hn
      by_cases hlt : k < 3
      · have HS := hide (putL_step (m := m) (show 3 - k = (3 - (k + 1)) + 1 by omega))
        go_wp2_with (at_builtin; refine wpList_app1 wr rfl (.tmp 23) (.tmp 26) 22 rfl w.heap.size 5 i0 (.int .u8 0) 1 1 Try.underlying22 hi hz0 hz1 hz2 rfl (by decide) _ rfl rfl ?o1 _ _ _ rfl HO.out ?n1 ?n2 ?n3 ?_)
        case o1 => first | rfl | (simp; done) | (intro u hu; simp at hu; subst hu; rfl)
        case n1 => unfold maxLen; omega
        case n2 => omega
        case n3 => exact HB.out.size
        intro A' n' c' w' hn' ho' hg'
        subst hn'
        have HO' := hide ho'
        have HB' := hide (HB.out.grown hg' HB.out.size (fun k hk => (HO.out.lt k hk).1))
        clear ho' hg'
        go_wp2_with fail
        refine ⟨⟨k + 1, m / 256, pre ++ [m % 256], A', l + 1, c', by omega, by go_num, rfl, by omega, by omega, rfl, ?_, ?_, ?_, ?_, HB'.out⟩, by simp [intOf]; omega⟩
        · rw [HL.out]; simp
        · rw [HK.out]
        · rw [List.append_assoc, ← HP.out, HS.out]; rfl
        · rw [← ints_snoc]
          first | exact HO'.out | (simpa using HO'.out)
      · have e : 3 - k = 0 := by omega
        have HV := hide (show putL 3 n = pre by rw [← HP.out, e]; simp [putL])
        clear e
        go_wp2_with fail
        go_ret
        exact HV.out ▸ RetInts.mk HL.out HO.out HB.out
  · have hb : inB 4 1 4 = true := by decide
    have hA' : inB n 0 4294967295 = true := hA
    clear hA h1
    go_enter Try.func137, Try.ntmps137
    go_wp2_with (first | (go_at_call 115; refine (within_any _ _ _ _).mono ?_; rintro e w' ⟨rfl, rfl⟩) | (go_at_call 110; refine (l1In_any _ _ _ _).mono ?_; rintro e w' ⟨rfl, rfl⟩) | fail)
    clear hb hA'
    go_loopw [0, 5, 21] (fun n' v i wr => ∃ (k : Nat) (m : Int) (pre : List Int) (A : Option Addr) (l c : Nat), k ≤ 4 ∧ i = .int .i64 k ∧ n' = .int .i64 m ∧ 0 ≤ m ∧ m ≤ 4294967295 ∧ v = .slice A l c ∧ l = pre.length ∧ l = k ∧ pre ++ putL (4 - k) m = putL 4 n ∧ wr.ownsRow w.heap.size 5 1 (.slice A l c) l (ints .u8 pre) ∧ Below w.heap.size w wr) (fun _ _ i _ => 4 - (intOf i).toNat)
    case atStart => exact ⟨0, n, [], _, _, _, by omega, rfl, rfl, h0, hn, rfl, rfl, rfl, rfl, ho0.out, hb0.out⟩
    case round =>
      obtain ⟨k, m, pre, A, l, c, hk, rfl, rfl, m0, m1, rfl, hl, hlk, hpre, ho, hb⟩ := hrel
      have HL := hide hl
      have HP := hide hpre
      have HO := hide ho
      have HB := hide hb
      have HK := hide hlk
      have hl4 : l ≤ 4 := by omega
      clear hl hpre ho hb hlk h0 hn
      by_cases hlt : k < 4
      · have HS := hide (putL_step (m := m) (show 4 - k = (4 - (k + 1)) + 1 by omega))
        go_wp2_with (at_builtin; refine wpList_app1 wr rfl (.tmp 23) (.tmp 26) 22 rfl w.heap.size 5 i0 (.int .u8 0) 1 1 Try.underlying22 hi hz0 hz1 hz2 rfl (by decide) _ rfl rfl ?o1 _ _ _ rfl HO.out ?n1 ?n2 ?n3 ?_)
        case o1 => first | rfl | (simp; done) | (intro u hu; simp at hu; subst hu; rfl)
        case n1 => unfold maxLen; omega
        case n2 => omega
        case n3 => exact HB.out.size
        intro A' n' c' w' hn' ho' hg'
        subst hn'
        have HO' := hide ho'
        have HB' := hide (HB.out.grown hg' HB.out.size (fun k hk => (HO.out.lt k hk).1))
        clear ho' hg'
        go_wp2_with fail
        refine ⟨⟨k + 1, m / 256, pre ++ [m % 256], A', l + 1, c', by omega, by go_num, rfl, by omega, by omega, rfl, ?_, ?_, ?_, ?_, HB'.out⟩, by simp [intOf]; omega⟩
        · rw [HL.out]; simp
        · rw [HK.out]
        · rw [List.append_assoc, ← HP.out, HS.out]; rfl
        · rw [← ints_snoc]
          first | exact HO'.out | (simpa using HO'.out)
      · have e : 4 - k = 0 := by omega
        have HV := hide (show putL 4 n = pre by rw [← HP.out, e]; simp [putL])
        clear e
        go_wp2_with fail
        go_ret
        exact HV.out ▸ RetInts.mk HL.out HO.out HB.out
theorem putNumberS_go (n : Int) (W : Nat) (w : World) (hW : 1 ≤ W ∧ W ≤ 4) (h0 : 0 ≤ n) (h1 : n ≤ all W) : Calls Try.prog 150 #[.int .i64 n, .int .i64 W] w (RetInts 5 .u8 (putL W n) w) := by
  obtain ⟨i0, hi, hz0, hz1, hz2⟩ := info_parts info8
  have hn : n ≤ 4294967295 := by unfold all at h1; split at h1 <;> (try split at h1) <;> (try split at h1) <;> omega
  have hA := inB_t (n := n) (lo := 0) (hi := all W) ⟨h0, h1⟩
  have ho0 := hide (own_empty (w := w) (E := 5))
  have hb0 : Hid (Below w.heap.size w (w.alloc (.cells #[] 5))) := (by repeat (first | exact Below.refl _ _ | with_reducible assumption | (refine Below.drew ?_) | (refine Below.drewN ?_ _) | (refine Below.alloc ?_ (by simp; try omega) _) | (refine Below.setCell ?_ (by simp; try omega) _)))
  obtain rfl | rfl | rfl | rfl : W = 1 ∨ W = 2 ∨ W = 3 ∨ W = 4 := by omega
  · have hb : inB 1 1 4 = true := by decide
    have hA' : inB n 0 255 = true := hA
    have hpw : powI 1 = 256 := rfl
    clear hA h1
    go_enter Try.func150, Try.ntmps150
    go_wp2_with (first | (go_at_call 110; refine (l1In_any _ _ _ _).mono ?_; rintro e w' ⟨rfl, rfl⟩) | (go_at_call 181; refine (power_any 1 (by omega) _).mono ?_; rintro e w' ⟨rfl, rfl⟩))
    clear hb hA'
    go_loopw [0, 5, 6] (fun n' v i wr => ∃ (k : Nat) (m : Int) (pre : List Int) (A : Option Addr) (l c : Nat), k ≤ 1 ∧ i = .int .i64 k ∧ n' = .int .i64 m ∧ 0 ≤ m ∧ m ≤ 4294967295 ∧ v = .slice A l c ∧ l = pre.length ∧ l = k ∧ pre ++ putL (1 - k) m = putL 1 n ∧ wr.ownsRow w.heap.size 5 1 (.slice A l c) l (ints .u8 pre) ∧ Below w.heap.size w wr) (fun _ _ i _ => 1 - (intOf i).toNat)
    case atStart => exact ⟨0, n, [], _, _, _, by omega, rfl, rfl, h0, hn, rfl, rfl, rfl, rfl, ho0.out, hb0.out⟩
    case round =>
      obtain ⟨k, m, pre, A, l, c, hk, rfl, rfl, m0, m1, rfl, hl, hlk, hpre, ho, hb⟩ := hrel
      have HL := hide hl
      have HP := hide hpre
      have HO := hide ho
      have HB := hide hb
      have HK := hide hlk
      have hl4 : l ≤ 4 := by omega
      clear hl hpre ho hb hlk h0 hn
      by_cases hlt : k < 1
      · have HS := hide (putL_step (m := m) (show 1 - k = (1 - (k + 1)) + 1 by omega))
        go_wp2_with (at_builtin; refine wpList_app1 wr rfl (.tmp 25) (.tmp 29) 22 rfl w.heap.size 5 i0 (.int .u8 0) 1 1 Try.underlying22 hi hz0 hz1 hz2 rfl (by decide) _ rfl rfl ?o1 _ _ _ rfl HO.out ?n1 ?n2 ?n3 ?_)
        case o1 => first | rfl | (simp; done) | (intro u hu; simp at hu; subst hu; rfl)
        case n1 => unfold maxLen; omega
        case n2 => omega
        case n3 => exact HB.out.size
        intro A' n' c' w' hn' ho' hg'
        subst hn'
        have HO' := hide ho'
        have HB' := hide (HB.out.grown hg' HB.out.size (fun k hk => (HO.out.lt k hk).1))
        clear ho' hg'
        go_wp2_with fail
        refine ⟨⟨k + 1, m / 256, pre ++ [m % 256], A', l + 1, c', by omega, by go_num, rfl, by omega, by omega, rfl, ?_, ?_, ?_, ?_, HB'.out⟩, by simp [intOf]; omega⟩
        · rw [HL.out]; simp
        · rw [HK.out]
        · rw [List.append_assoc, ← HP.out, HS.out]; rfl
        · rw [← ints_snoc]
          first | exact HO'.out | (simpa using HO'.out)
      · have e : 1 - k = 0 := by omega
        have HV := hide (show putL 1 n = pre by rw [← HP.out, e]; simp [putL])
        clear e
        go_wp2_with fail
        go_ret
        exact HV.out ▸ RetInts.mk HL.out HO.out HB.out
  · have hb : inB 2 1 4 = true := by decide
    have hA' : inB n 0 65535 = true := hA
    have hpw : powI 2 = 65536 := rfl
    clear hA h1
    go_enter Try.func150, Try.ntmps150
    go_wp2_with (first | (go_at_call 110; refine (l1In_any _ _ _ _).mono ?_; rintro e w' ⟨rfl, rfl⟩) | (go_at_call 181; refine (power_any 2 (by omega) _).mono ?_; rintro e w' ⟨rfl, rfl⟩))
    clear hb hA'
    go_loopw [0, 5, 6] (fun n' v i wr => ∃ (k : Nat) (m : Int) (pre : List Int) (A : Option Addr) (l c : Nat), k ≤ 2 ∧ i = .int .i64 k ∧ n' = .int .i64 m ∧ 0 ≤ m ∧ m ≤ 4294967295 ∧ v = .slice A l c ∧ l = pre.length ∧ l = k ∧ pre ++ putL (2 - k) m = putL 2 n ∧ wr.ownsRow w.heap.size 5 1 (.slice A l c) l (ints .u8 pre) ∧ Below w.heap.size w wr) (fun _ _ i _ => 2 - (intOf i).toNat)
    case atStart => exact ⟨0, n, [], _, _, _, by omega, rfl, rfl, h0, hn, rfl, rfl, rfl, rfl, ho0.out, hb0.out⟩
    case round =>
      obtain ⟨k, m, pre, A, l, c, hk, rfl, rfl, m0, m1, rfl, hl, hlk, hpre, ho, hb⟩ := hrel
      have HL := hide hl
      have HP := hide hpre
      have HO := hide ho
      have HB := hide hb
      have HK := hide hlk
      have hl4 : l ≤ 4 := by omega
      clear hl hpre ho hb hlk h0 hn
      by_cases hlt : k < 2
      · have HS := hide (putL_step (m := m) (show 2 - k = (2 - (k + 1)) + 1 by omega))
        go_wp2_with (at_builtin; refine wpList_app1 wr rfl (.tmp 25) (.tmp 29) 22 rfl w.heap.size 5 i0 (.int .u8 0) 1 1 Try.underlying22 hi hz0 hz1 hz2 rfl (by decide) _ rfl rfl ?o1 _ _ _ rfl HO.out ?n1 ?n2 ?n3 ?_)
        case o1 => first | rfl | (simp; done) | (intro u hu; simp at hu; subst hu; rfl)
        case n1 => unfold maxLen; omega
        case n2 => omega
        case n3 => exact HB.out.size
        intro A' n' c' w' hn' ho' hg'
        subst hn'
        have HO' := hide ho'
        have HB' := hide (HB.out.grown hg' HB.out.size (fun k hk => (HO.out.lt k hk).1))
        clear ho' hg'
        go_wp2_with fail
        refine ⟨⟨k + 1, m / 256, pre ++ [m % 256], A', l + 1, c', by omega, by go_num, rfl, by omega, by omega, rfl, ?_, ?_, ?_, ?_, HB'.out⟩, by simp [intOf]; omega⟩
        · rw [HL.out]; simp
        · rw [HK.out]
        · rw [List.append_assoc, ← HP.out, HS.out]; rfl
        · rw [← ints_snoc]
          first | exact HO'.out | (simpa using HO'.out)
      · have e : 2 - k = 0 := by omega
        have HV := hide (show putL 2 n = pre by rw [← HP.out, e]; simp [putL])
        clear e
        go_wp2_with fail
        go_ret
        exact HV.out ▸ RetInts.mk HL.out HO.out HB.out
  · have hb : inB 3 1 4 = true := by decide
    have hA' : inB n 0 16777215 = true := hA
    have hpw : powI 3 = 16777216 := rfl
    clear hA h1
    go_enter Try.func150, Try.ntmps150
    go_wp2_with (first | (go_at_call 110; refine (l1In_any _ _ _ _).mono ?_; rintro e w' ⟨rfl, rfl⟩) | (go_at_call 181; refine (power_any 3 (by omega) _).mono ?_; rintro e w' ⟨rfl, rfl⟩))
    clear hb hA'
    go_loopw [0, 5, 6] (fun n' v i wr => ∃ (k : Nat) (m : Int) (pre : List Int) (A : Option Addr) (l c : Nat), k ≤ 3 ∧ i = .int .i64 k ∧ n' = .int .i64 m ∧ 0 ≤ m ∧ m ≤ 4294967295 ∧ v = .slice A l c ∧ l = pre.length ∧ l = k ∧ pre ++ putL (3 - k) m = putL 3 n ∧ wr.ownsRow w.heap.size 5 1 (.slice A l c) l (ints .u8 pre) ∧ Below w.heap.size w wr) (fun _ _ i _ => 3 - (intOf i).toNat)
    case atStart => exact ⟨0, n, [], _, _, _, by omega, rfl, rfl, h0, hn, rfl, rfl, rfl, rfl, ho0.out, hb0.out⟩
    case round =>
      obtain ⟨k, m, pre, A, l, c, hk, rfl, rfl, m0, m1, rfl, hl, hlk, hpre, ho, hb⟩ := hrel
      have HL := hide hl
      have HP := hide hpre
      have HO := hide ho
      have HB := hide hb
      have HK := hide hlk
      have hl4 : l ≤ 4 := by omega
      clear hl hpre ho hb hlk h0 hn
      by_cases hlt : k < 3
      · have HS := hide (putL_step (m := m) (show 3 - k = (3 - (k + 1)) + 1 by omega))
        go_wp2_with (at_builtin; refine wpList_app1 wr rfl (.tmp 25) (.tmp 29) 22 rfl w.heap.size 5 i0 (.int .u8 0) 1 1 Try.underlying22 hi hz0 hz1 hz2 rfl (by decide) _ rfl rfl ?o1 _ _ _ rfl HO.out ?n1 ?n2 ?n3 ?_)
        case o1 => first | rfl | (simp; done) | (intro u hu; simp at hu; subst hu; rfl)
        case n1 => unfold maxLen; omega
        case n2 => omega
        case n3 => exact HB.out.size
        intro A' n' c' w' hn' ho' hg'
        subst hn'
        have HO' := hide ho'
        have HB' := hide (HB.out.grown hg' HB.out.size (fun k hk => (HO.out.lt k hk).1))
        clear ho' hg'
        go_wp2_with fail
        refine ⟨⟨k + 1, m / 256, pre ++ [m % 256], A', l + 1, c', by omega, by go_num, rfl, by omega, by omega, rfl, ?_, ?_, ?_, ?_, HB'.out⟩, by simp [intOf]; omega⟩
        · rw [HL.out]; simp
        · rw [HK.out]
        · rw [List.append_assoc, ← HP.out, HS.out]; rfl
        · rw [← ints_snoc]
          first | exact HO'.out | (simpa using HO'.out)
      · have e : 3 - k = 0 := by omega
        have HV := hide (show putL 3 n = pre by rw [← HP.out, e]; simp [putL])
        clear e
        go_wp2_with fail
        go_ret
        exact HV.out ▸ RetInts.mk HL.out HO.out HB.out
  · have hb : inB 4 1 4 = true := by decide
    have hA' : inB n 0 4294967295 = true := hA
    have hpw : powI 4 = 4294967296 := rfl
    clear hA h1
    go_enter Try.func150, Try.ntmps150
    go_wp2_with (first | (go_at_call 110; refine (l1In_any _ _ _ _).mono ?_; rintro e w' ⟨rfl, rfl⟩) | (go_at_call 181; refine (power_any 4 (by omega) _).mono ?_; rintro e w' ⟨rfl, rfl⟩))
    clear hb hA'
    go_loopw [0, 5, 6] (fun n' v i wr => ∃ (k : Nat) (m : Int) (pre : List Int) (A : Option Addr) (l c : Nat), k ≤ 4 ∧ i = .int .i64 k ∧ n' = .int .i64 m ∧ 0 ≤ m ∧ m ≤ 4294967295 ∧ v = .slice A l c ∧ l = pre.length ∧ l = k ∧ pre ++ putL (4 - k) m = putL 4 n ∧ wr.ownsRow w.heap.size 5 1 (.slice A l c) l (ints .u8 pre) ∧ Below w.heap.size w wr) (fun _ _ i _ => 4 - (intOf i).toNat)
    case atStart => exact ⟨0, n, [], _, _, _, by omega, rfl, rfl, h0, hn, rfl, rfl, rfl, rfl, ho0.out, hb0.out⟩
    case round =>
      obtain ⟨k, m, pre, A, l, c, hk, rfl, rfl, m0, m1, rfl, hl, hlk, hpre, ho, hb⟩ := hrel
      have HL := hide hl
      have HP := hide hpre
      have HO := hide ho
      have HB := hide hb
      have HK := hide hlk
      have hl4 : l ≤ 4 := by omega
      clear hl hpre ho hb hlk h0 hn
      by_cases hlt : k < 4
      · have HS := hide (putL_step (m := m) (show 4 - k = (4 - (k + 1)) + 1 by omega))
        go_wp2_with (at_builtin; refine wpList_app1 wr rfl (.tmp 25) (.tmp 29) 22 rfl w.heap.size 5 i0 (.int .u8 0) 1 1 Try.underlying22 hi hz0 hz1 hz2 rfl (by decide) _ rfl rfl ?o1 _ _ _ rfl HO.out ?n1 ?n2 ?n3 ?_)
        case o1 => first | rfl | (simp; done) | (intro u hu; simp at hu; subst hu; rfl)
        case n1 => unfold maxLen; omega
        case n2 => omega
        case n3 => exact HB.out.size
        intro A' n' c' w' hn' ho' hg'
        subst hn'
        have HO' := hide ho'
        have HB' := hide (HB.out.grown hg' HB.out.size (fun k hk => (HO.out.lt k hk).1))
        clear ho' hg'
        go_wp2_with fail
        refine ⟨⟨k + 1, m / 256, pre ++ [m % 256], A', l + 1, c', by omega, by go_num, rfl, by omega, by omega, rfl, ?_, ?_, ?_, ?_, HB'.out⟩, by simp [intOf]; omega⟩
        · rw [HL.out]; simp
        · rw [HK.out]
        · rw [List.append_assoc, ← HP.out, HS.out]; rfl
        · rw [← ints_snoc]
          first | exact HO'.out | (simpa using HO'.out)
      · have e : 4 - k = 0 := by omega
        have HV := hide (show putL 4 n = pre by rw [← HP.out, e]; simp [putL])
        clear e
        go_wp2_with fail
        go_ret
        exact HV.out ▸ RetInts.mk HL.out HO.out HB.out
theorem putNumber_any (n wide : Int) (w : World) : Calls Try.prog 137 #[.int .i64 n, .int .i64 wide] w (RetInts 5 .u8 (pnum n wide) w) := by
  by_cases hw : 1 ≤ wide ∧ wide ≤ 4
  · obtain ⟨W, rfl⟩ := Int.eq_ofNat_of_zero_le (show 0 ≤ wide by omega)
    by_cases hn : 0 ≤ n ∧ n ≤ all W
    · rw [show pnum n W = putL W n by rw [pnum, if_pos ⟨inB_t hw, inB_t hn⟩]; rfl]
      exact putNumber_go n W w (by omega) hn.1 hn.2
    · rw [show pnum n W = [] by rw [pnum, if_neg (by rw [inB_f hn]; simp)]]
      have hA := inB_f (n := n) (lo := 0) (hi := all W) hn
      obtain rfl | rfl | rfl | rfl : W = 1 ∨ W = 2 ∨ W = 3 ∨ W = 4 := by omega
      · have hb : inB 1 1 4 = true := by decide
        have hA' : inB n 0 255 = false := hA
        clear hA hn hw
        go_enter Try.func137, Try.ntmps137
        go_wp2_with (first | (go_at_call 115; refine (within_any _ _ _ _).mono ?_; rintro e w' ⟨rfl, rfl⟩) | (go_at_call 110; refine (l1In_any _ _ _ _).mono ?_; rintro e w' ⟨rfl, rfl⟩) | fail)
        go_ret
        exact RetInts.nil (Below.refl _ _)
      · have hb : inB 2 1 4 = true := by decide
        have hA' : inB n 0 65535 = false := hA
        clear hA hn hw
        go_enter Try.func137, Try.ntmps137
        go_wp2_with (first | (go_at_call 115; refine (within_any _ _ _ _).mono ?_; rintro e w' ⟨rfl, rfl⟩) | (go_at_call 110; refine (l1In_any _ _ _ _).mono ?_; rintro e w' ⟨rfl, rfl⟩) | fail)
        go_ret
        exact RetInts.nil (Below.refl _ _)
      · have hb : inB 3 1 4 = true := by decide
        have hA' : inB n 0 16777215 = false := hA
        clear hA hn hw
        go_enter Try.func137, Try.ntmps137
        go_wp2_with (first | (go_at_call 115; refine (within_any _ _ _ _).mono ?_; rintro e w' ⟨rfl, rfl⟩) | (go_at_call 110; refine (l1In_any _ _ _ _).mono ?_; rintro e w' ⟨rfl, rfl⟩) | fail)
        go_ret
        exact RetInts.nil (Below.refl _ _)
      · have hb : inB 4 1 4 = true := by decide
        have hA' : inB n 0 4294967295 = false := hA
        clear hA hn hw
        go_enter Try.func137, Try.ntmps137
        go_wp2_with (first | (go_at_call 115; refine (within_any _ _ _ _).mono ?_; rintro e w' ⟨rfl, rfl⟩) | (go_at_call 110; refine (l1In_any _ _ _ _).mono ?_; rintro e w' ⟨rfl, rfl⟩) | fail)
        go_ret
        exact RetInts.nil (Below.refl _ _)
  · rw [show pnum n wide = [] by rw [pnum, if_neg (by rw [inB_f hw]; simp)]]
    have hb := inB_f hw
    clear hw
    go_enter Try.func137, Try.ntmps137
    go_wp2_with (first | (go_at_call 115; refine (within_any _ _ _ _).mono ?_; rintro e w' ⟨rfl, rfl⟩) | (go_at_call 110; refine (l1In_any _ _ _ _).mono ?_; rintro e w' ⟨rfl, rfl⟩) | fail)
    go_ret
    exact RetInts.nil (Below.refl _ _)
theorem putNumberS_any (n wide : Int) (w : World) : Calls Try.prog 150 #[.int .i64 n, .int .i64 wide] w (RetInts 5 .u8 (pnum n wide) w) := by
  by_cases hw : 1 ≤ wide ∧ wide ≤ 4
  · obtain ⟨W, rfl⟩ := Int.eq_ofNat_of_zero_le (show 0 ≤ wide by omega)
    by_cases hn : 0 ≤ n ∧ n ≤ all W
    · rw [show pnum n W = putL W n by rw [pnum, if_pos ⟨inB_t hw, inB_t hn⟩]; rfl]
      exact putNumberS_go n W w (by omega) hn.1 hn.2
    · rw [show pnum n W = [] by rw [pnum, if_neg (by rw [inB_f hn]; simp)]]
      have hA := inB_f (n := n) (lo := 0) (hi := all W) hn
      obtain rfl | rfl | rfl | rfl : W = 1 ∨ W = 2 ∨ W = 3 ∨ W = 4 := by omega
      · have hb : inB 1 1 4 = true := by decide
        have hA' : inB n 0 255 = false := hA
        have hpw : powI 1 = 256 := rfl
        clear hA hn hw
        go_enter Try.func150, Try.ntmps150
        go_wp2_with (first | (go_at_call 110; refine (l1In_any _ _ _ _).mono ?_; rintro e w' ⟨rfl, rfl⟩) | (go_at_call 181; refine (power_any 1 (by omega) _).mono ?_; rintro e w' ⟨rfl, rfl⟩))
        go_ret
        exact RetInts.mk rfl own_empty (by repeat (first | exact Below.refl _ _ | with_reducible assumption | (refine Below.drew ?_) | (refine Below.drewN ?_ _) | (refine Below.alloc ?_ (by simp; try omega) _) | (refine Below.setCell ?_ (by simp; try omega) _)))
      · have hb : inB 2 1 4 = true := by decide
        have hA' : inB n 0 65535 = false := hA
        have hpw : powI 2 = 65536 := rfl
        clear hA hn hw
        go_enter Try.func150, Try.ntmps150
        go_wp2_with (first | (go_at_call 110; refine (l1In_any _ _ _ _).mono ?_; rintro e w' ⟨rfl, rfl⟩) | (go_at_call 181; refine (power_any 2 (by omega) _).mono ?_; rintro e w' ⟨rfl, rfl⟩))
        go_ret
        exact RetInts.mk rfl own_empty (by repeat (first | exact Below.refl _ _ | with_reducible assumption | (refine Below.drew ?_) | (refine Below.drewN ?_ _) | (refine Below.alloc ?_ (by simp; try omega) _) | (refine Below.setCell ?_ (by simp; try omega) _)))
      · have hb : inB 3 1 4 = true := by decide
        have hA' : inB n 0 16777215 = false := hA
        have hpw : powI 3 = 16777216 := rfl
        clear hA hn hw
        go_enter Try.func150, Try.ntmps150
        go_wp2_with (first | (go_at_call 110; refine (l1In_any _ _ _ _).mono ?_; rintro e w' ⟨rfl, rfl⟩) | (go_at_call 181; refine (power_any 3 (by omega) _).mono ?_; rintro e w' ⟨rfl, rfl⟩))
        go_ret
        exact RetInts.mk rfl own_empty (by repeat (first | exact Below.refl _ _ | with_reducible assumption | (refine Below.drew ?_) | (refine Below.drewN ?_ _) | (refine Below.alloc ?_ (by simp; try omega) _) | (refine Below.setCell ?_ (by simp; try omega) _)))
      · have hb : inB 4 1 4 = true := by decide
        have hA' : inB n 0 4294967295 = false := hA
        have hpw : powI 4 = 4294967296 := rfl
        clear hA hn hw
        go_enter Try.func150, Try.ntmps150
        go_wp2_with (first | (go_at_call 110; refine (l1In_any _ _ _ _).mono ?_; rintro e w' ⟨rfl, rfl⟩) | (go_at_call 181; refine (power_any 4 (by omega) _).mono ?_; rintro e w' ⟨rfl, rfl⟩))
        go_ret
        exact RetInts.mk rfl own_empty (by repeat (first | exact Below.refl _ _ | with_reducible assumption | (refine Below.drew ?_) | (refine Below.drewN ?_ _) | (refine Below.alloc ?_ (by simp; try omega) _) | (refine Below.setCell ?_ (by simp; try omega) _)))
  · rw [show pnum n wide = [] by rw [pnum, if_neg (by rw [inB_f hw]; simp)]]
    have hb := inB_f hw
    clear hw
    go_enter Try.func150, Try.ntmps150
    go_wp2_with (first | (go_at_call 115; refine (within_any _ _ _ _).mono ?_; rintro e w' ⟨rfl, rfl⟩) | (go_at_call 110; refine (l1In_any _ _ _ _).mono ?_; rintro e w' ⟨rfl, rfl⟩) | fail)
    go_ret
    exact RetInts.mk rfl own_empty (by repeat (first | exact Below.refl _ _ | with_reducible assumption | (refine Below.drew ?_) | (refine Below.drewN ?_ _) | (refine Below.alloc ?_ (by simp; try omega) _) | (refine Below.setCell ?_ (by simp; try omega) _)))
/-- The number of bytes, the lowest one first. -/
def numL : List Int → Int
  | [] => 0
  | x :: r => x + 256 * numL r
theorem numL_bd : ∀ {l : List Int}, InR 0 255 l → l.length ≤ 4 → 0 ≤ numL l ∧ numL l ≤ 4294967295
  | [], _, _ => by simp [numL]
  | [a], h, _ => by have := h a (by simp); simp [numL]; omega
  | [a, b], h, _ => by have := h a (by simp); have := h b (by simp); simp [numL]; omega
  | [a, b, c], h, _ => by have := h a (by simp); have := h b (by simp); have := h c (by simp); simp [numL]; omega
  | [a, b, c, d], h, _ => by have := h a (by simp); have := h b (by simp); have := h c (by simp); have := h d (by simp); simp [numL]; omega
  | _ :: _ :: _ :: _ :: _ :: _, _, h => by simp at h
def gnum (b : List Int) (at_ wide : Int) : Int := if inB wide 1 4 = true ∧ inB at_ 0 (b.length - wide) = true then numL ((b.drop at_.toNat).take wide.toNat) else -1
theorem num_step {zs : List Int} {a k W : Nat} (hk : k < W) (hl : a + W ≤ zs.length) : numL (((zs.drop a).take W).drop k) = zs[a + k]'(by omega) + 256 * numL (((zs.drop a).take W).drop (k + 1)) := by
  have hlen : k < ((zs.drop a).take W).length := by rw [List.length_take, List.length_drop]; omega
  rw [List.drop_eq_getElem_cons hlen]
  simp [numL]
theorem rel_num {a x n : Int} (h : a = x + 256 * n) : Value.int .i64 (256 * n + x) = .int .i64 a := by rw [h, Int.add_comm]
theorem num3 {l : List Int} (h : InR 0 255 l) (hl : l.length ≤ 3) : 0 ≤ numL l ∧ numL l ≤ 16777215 := by
  match l, hl, h with
  | [], _, _ => simp [numL]
  | [a], _, h => have := h a (by simp); simp [numL]; omega
  | [a, b], _, h => have := h a (by simp); have := h b (by simp); simp [numL]; omega
  | [a, b, c], _, h => have := h a (by simp); have := h b (by simp); have := h c (by simp); simp [numL]; omega
end Go.Proofs.Ytmglgjchemecjaa.CNumber
/- Linking objects: where sections lie, what names mean, what fixups fill; plain. -/
namespace Go.Proofs.Ytmglgjchemecjaa.PLink
set_option maxRecDepth 200000
open Go.ChangeShapes Go.WideShapes Go.ChangeAt Go.RowKit Kit CCode CName CNumber CFixups CSymbols PObj PValid PWarn PClear PSort
/-- Bytes put over others. -/
def sp (l : List Int) (i : Nat) (zs : List Int) : List Int := l.take i ++ zs ++ l.drop (i + zs.length)
theorem sp_len {l zs : List Int} {i : Nat} (h : i + zs.length ≤ l.length) : (sp l i zs).length = l.length := by
  unfold sp
  simp only [List.length_append, List.length_take, List.length_drop]
  omega
theorem sp_get {l zs : List Int} {i : Nat} (h : i + zs.length ≤ l.length) (k : Nat) : (sp l i zs)[k]? = if i ≤ k ∧ k < i + zs.length then zs[k - i]? else l[k]? := by
  unfold sp
  have hl : (l.take i).length = i := by rw [List.length_take]; omega
  rcases Nat.lt_or_ge k i with h1 | h1
  · rw [List.append_assoc, List.getElem?_append_left (by omega), List.getElem?_take_of_lt h1, if_neg (by omega)]
  · rw [List.append_assoc, List.getElem?_append_right (by omega), hl]
    rcases Nat.lt_or_ge (k - i) zs.length with h2 | h2
    · rw [List.getElem?_append_left h2, if_pos (by omega)]
    · rw [List.getElem?_append_right h2, List.getElem?_drop, if_neg (by omega)]
      congr 1
      omega
theorem sp_in {l zs : List Int} {i : Nat} {lo hi : Int} (h : InR lo hi l) (h' : InR lo hi zs) : InR lo hi (sp l i zs) := by
  intro x hx
  unfold sp at hx
  rcases List.mem_append.1 hx with hx | hx
  · rcases List.mem_append.1 hx with hx | hx
    · exact h x (List.mem_of_mem_take hx)
    · exact h' x hx
  · exact h x (List.mem_of_mem_drop hx)
abbrev G := Nat × Nat
def gives (nm : ByteArray) (b : Int) (y : YD) : Bool := decide (y.1 = nm) && decide (y.2.1 = b) && !decide (y.2.2.1 = -1)
def fiS (p : YD → Bool) : Nat → List YD → Option Nat
  | _, [] => none
  | j, y :: ys => bif p y then some j else fiS p (j + 1) ys
def fiR (p : YD → Bool) (k : Nat) (r : Option Nat) (rest : Option G) : Option G := match r with
  | some j => some (k, j)
  | none => rest
def fiO (p : YD → Bool) : Nat → List OD → Option G
  | _, [] => none
  | k, d :: ds => fiR p k (fiS p 0 d.ys) (fiO p (k + 1) ds)
theorem fiS_drop {p : YD → Bool} {ys : List YD} {j : Nat} (h : j < ys.length) (n : Nat) : fiS p n (ys.drop j) = bif p ys[j] then some n else fiS p (n + 1) (ys.drop (j + 1)) := by
  rw [List.drop_eq_getElem_cons h]
  rfl
theorem fiO_drop {p : YD → Bool} {ds : List OD} {k : Nat} (h : k < ds.length) (n : Nat) : fiO p n (ds.drop k) = fiR p n (fiS p 0 ds[k].ys) (fiO p (n + 1) (ds.drop (k + 1))) := by
  rw [List.drop_eq_getElem_cons h]
  rfl
def orG (a b : Option G) : Option G := match a with
  | some g => some g
  | none => b
def findN (l : List OD) (nm : ByteArray) : Option G := orG (fiO (gives nm 1) 0 l) (fiO (gives nm 2) 0 l)
def gin : Option G → Int
  | some g => g.1
  | none => 0
def gat : Option G → Int
  | some g => g.2
  | none => 0
theorem fiS_spec {p : YD → Bool} : ∀ (ys : List YD) (n j : Nat), fiS p n ys = some j → n ≤ j ∧ j - n < ys.length ∧ p (ys.getD (j - n) dY) = true
  | [], n, j, h => by cases h
  | y :: ys, n, j, h => by
    rw [fiS] at h
    cases hp : p y
    · rw [hp, cond_false] at h
      obtain ⟨h1, h2, h3⟩ := fiS_spec ys (n + 1) j h
      obtain ⟨m, rfl⟩ : ∃ m, j = n + 1 + m := ⟨j - (n + 1), by omega⟩
      have e1 : n + 1 + m - n = m + 1 := by omega
      have e2 : n + 1 + m - (n + 1) = m := by omega
      rw [e2] at h2 h3
      rw [e1]
      exact ⟨by omega, by simpa using h2, by simpa using h3⟩
    · rw [hp, cond_true] at h
      injection h with h
      subst h
      simp [hp]
theorem fiS_none {p : YD → Bool} : ∀ (ys : List YD) (n : Nat), fiS p n ys = none ↔ ∀ y ∈ ys, p y = false
  | [], n => by simp [fiS]
  | y :: ys, n => by
    rw [fiS]
    cases hp : p y
    · rw [cond_false, fiS_none ys (n + 1)]
      simp [hp]
    · simp [hp]
theorem fiO_spec {p : YD → Bool} : ∀ (ds : List OD) (n : Nat) (g : G), fiO p n ds = some g → n ≤ g.1 ∧ g.1 - n < ds.length ∧ g.2 < (ds.getD (g.1 - n) ⟨[], []⟩).ys.length ∧ p ((ds.getD (g.1 - n) ⟨[], []⟩).ys.getD g.2 dY) = true
  | [], n, g, h => by cases h
  | d :: ds, n, g, h => by
    rw [fiO] at h
    cases hs : fiS p 0 d.ys with
    | some j =>
      rw [hs, fiR] at h
      injection h with h
      subst h
      have := fiS_spec d.ys 0 j hs
      simpa using this
    | none =>
      rw [hs, fiR] at h
      obtain ⟨h1, h2, h3, h4⟩ := fiO_spec ds (n + 1) g h
      obtain ⟨m, hm⟩ : ∃ m, g.1 = n + 1 + m := ⟨g.1 - (n + 1), by omega⟩
      have e1 : g.1 - n = m + 1 := by omega
      have e2 : g.1 - (n + 1) = m := by omega
      rw [e2] at h2 h3 h4
      rw [e1]
      exact ⟨by omega, by simpa using h2, by simpa using h3, by simpa using h4⟩
def Gok (l : List OD) (g : G) : Prop := g.1 < l.length ∧ g.2 < (l.getD g.1 ⟨[], []⟩).ys.length ∧ ¬ ((l.getD g.1 ⟨[], []⟩).ys.getD g.2 dY).2.2.1 = -1
theorem find_ok {l : List OD} {nm : ByteArray} {g : G} (h : findN l nm = some g) : Gok l g := by
  unfold findN at h
  have key : ∀ b, fiO (gives nm b) 0 l = some g → Gok l g := fun b hb => by
    obtain ⟨_, h2, h3, h4⟩ := fiO_spec l 0 g hb
    rw [Nat.sub_zero] at h2 h3 h4
    simp only [gives, Bool.and_eq_true, Bool.not_eq_true', decide_eq_false_iff_not] at h4
    exact ⟨h2, h3, h4.2⟩
  cases h1 : fiO (gives nm 1) 0 l with
  | some a =>
    rw [h1] at h
    injection h with h
    subst h
    exact key 1 h1
  | none =>
    rw [h1] at h
    exact key 2 h
/-- Names given strongly, and those met before. -/
def isStrong (y : YD) : Bool := decide (y.2.1 = 1) && !decide (y.2.2.1 = -1)
def twStep (st : List ByteArray × List ByteArray) (y : YD) : List ByteArray × List ByteArray := bif isStrong y then ((bif st.2.any (fun x => decide (x = y.1)) then st.1 ++ [y.1] else st.1), st.2 ++ [y.1]) else st
def twS (st : List ByteArray × List ByteArray) (ys : List YD) : List ByteArray × List ByteArray := ys.foldl twStep st
def twO (st : List ByteArray × List ByteArray) (l : List OD) : List ByteArray × List ByteArray := l.foldl (fun st d => twS st d.ys) st
def twice (l : List OD) : List ByteArray := (twO ([], []) l).1
def isMiss (l : List OD) (y : YD) : Bool := decide (y.2.1 = 1) && decide (y.2.2.1 = -1) && (findN l y.1).isNone
def missS (l : List OD) (ys : List YD) : List ByteArray := (ys.filter (isMiss l)).map (·.1)
def miss (l : List OD) : List ByteArray := l.flatMap fun d => missS l d.ys
/-- The least multiple from a number on. -/
def al (n q : Int) : Int := (n + q - 1) / q * q
theorem al_bd {n q : Int} (hn : 0 ≤ n) (h : alignOk q = true) : n ≤ al n q ∧ al n q ≤ n + 7 := by
  unfold al
  simp only [alignOk, Bool.or_eq_true, decide_eq_true_eq] at h
  rcases h with ((rfl | rfl) | rfl) | rfl <;> omega
abbrev St := Int × List (List Int)
def setP (P : List (List Int)) (k i : Nat) (v : Int) : List (List Int) := P.set k ((P.getD k []).set i v)
def getP (P : List (List Int)) (k i : Nat) : Int := (P.getD k []).getD i 0
def stepS (kd : Int) (k i : Nat) (s : SD) (st : St) : St := bif decide (s.kd = kd) then (al st.1 s.al + secSize s, setP st.2 k i (al st.1 s.al)) else st
def foldS (kd : Int) (k : Nat) : Nat → List SD → St → St
  | _, [], st => st
  | i, s :: ss, st => foldS kd k (i + 1) ss (stepS kd k i s st)
def foldO (kd : Int) : Nat → List OD → St → St
  | _, [], st => st
  | k, d :: ds, st => foldO kd (k + 1) ds (foldS kd k 0 d.ss st)
theorem foldS_drop {kd : Int} {k : Nat} {ss : List SD} {j : Nat} (h : j < ss.length) (i : Nat) (st : St) : foldS kd k i (ss.drop j) st = foldS kd k (i + 1) (ss.drop (j + 1)) (stepS kd k i ss[j] st) := by
  rw [List.drop_eq_getElem_cons h]
  rfl
theorem foldO_drop {kd : Int} {l : List OD} {j : Nat} (h : j < l.length) (k : Nat) (st : St) : foldO kd k (l.drop j) st = foldO kd (k + 1) (l.drop (j + 1)) (foldS kd k 0 l[j].ss st) := by
  rw [List.drop_eq_getElem_cons h]
  rfl
/-- A kind of sections behind the others. -/
def kindS (l : List OD) (kd : Int) (st : St) : St := foldO kd 0 l (al st.1 8, st.2)
def zeroP (l : List OD) : List (List Int) := l.map fun d => List.replicate d.ss.length 0
def lay (l : List OD) (base : Int) : St := kindS l 3 (kindS l 2 (kindS l 1 (base, zeroP l)))
/-- What lies where: of the objects' sections only kinds, alignments and sizes count. -/
def sh (d : OD) : List (Int × Int × Int) := d.ss.map fun s => (s.kd, s.al, secSize s)
theorem foldS_sh (kd : Int) (k : Nat) : ∀ (a b : List SD) (i : Nat) (st : St), a.map (fun s => (s.kd, s.al, secSize s)) = b.map (fun s => (s.kd, s.al, secSize s)) → foldS kd k i a st = foldS kd k i b st
  | [], [], _, _, _ => rfl
  | [], _ :: _, _, _, h => by simp at h
  | _ :: _, [], _, _, h => by simp at h
  | x :: a, y :: b, i, st, h => by
    simp only [List.map_cons, List.cons.injEq, Prod.mk.injEq] at h
    rw [foldS, foldS]
    have e : stepS kd k i x st = stepS kd k i y st := by
      unfold stepS
      rw [h.1.1, h.1.2.1, h.1.2.2]
    rw [e]
    exact foldS_sh kd k a b _ _ h.2
theorem lay_one {d e : OD} (h : sh d = sh e) (base : Int) : lay [d] base = lay [e] base := by
  have hf : ∀ kd st, kindS [d] kd st = kindS [e] kd st := fun kd st => by
    unfold kindS
    simp only [foldO]
    exact foldS_sh kd 0 d.ss e.ss 0 _ h
  have hz : zeroP [d] = zeroP [e] := by
    have := congrArg List.length h
    simp only [sh, List.length_map] at this
    simp [zeroP, this]
  unfold lay
  rw [hz, hf 1, hf 2, hf 3]
/-- The place that a symbol means. -/
def tgY (P : List (List Int)) (k : Nat) (y : YD) : Int := if y.2.2.1 = -2 then y.2.2.2 else getP P k y.2.2.1.toNat + y.2.2.2
def symAtL (l : List OD) (g : G) : YD := (l.getD g.1 ⟨[], []⟩).ys.getD g.2 dY
def tgG (l : List OD) (P : List (List Int)) (g : G) : Int := tgY P g.1 (symAtL l g)
def tgO (l : List OD) (P : List (List Int)) : Option G → Int
  | some g => tgG l P g
  | none => 0
def symPl (l : List OD) (P : List (List Int)) (k j : Nat) : Int :=
  if (symAtL l (k, j)).2.1 = 0 then tgG l P (k, j) else tgO l P (findN l (symAtL l (k, j)).1)
def near (p v : Int) : Int := v - (p + 1)
def fixVal (kind place target add : Int) : Option Int :=
  if inB place 0 100000 = true ∧ inB target 0 100000 = true ∧ inB add (-1000) 1000 = true then
    (if kind = 2 then (if inB (target + add) 0 65535 = true then some (target + add) else none)
     else if kind = 3 then (if 0 ≤ target + add then some (target + add) else none)
     else if kind = 1 then (if inB (near place (target + add)) (-128) 127 = true then some (near place (target + add) % 256) else none)
     else none)
  else none
def apF (b : List Int) (place : Int) (f : FD) (target : Int) : Option (List Int) :=
  if inB place 0 100000 = true ∧ ¬ wide f.2.1 = 0 ∧ inB f.1 0 (b.length - wide f.2.1) = true then
    (fixVal f.2.1 (place + f.1) target f.2.2.2).map fun v => sp b f.1.toNat (putL (wide f.2.1).toNat v)
  else none
def fill (l : List OD) (P : List (List Int)) (k : Nat) (place : Int) : List FD → Option (List Int) → Option (List Int)
  | [], b => b
  | f :: fs, b => fill l P k place fs (b.bind fun b => apF b place f (symPl l P k f.2.2.1.toNat))
def over (im : List Int) (i : Nat) (b : List Int) : List Int := sp im i (b.take (im.length - i))
def imS (l : List OD) (P : List (List Int)) (base : Int) (k : Nat) : Nat → List SD → Option (List Int) → Option (List Int)
  | _, [], im => im
  | i, s :: ss, im => imS l P base k (i + 1) ss (im.bind fun im => (fill l P k (getP P k i) s.fs (some s.zs)).map fun b => over im (getP P k i - base).toNat b)
def imO (l : List OD) (P : List (List Int)) (base : Int) : Nat → List OD → Option (List Int) → Option (List Int)
  | _, [], im => im
  | k, d :: ds, im => imO l P base (k + 1) ds (imS l P base k 0 d.ss im)
theorem fill_drop {l : List OD} {P : List (List Int)} {k : Nat} {place : Int} {fs : List FD} {j : Nat} (h : j < fs.length) (b : Option (List Int)) : fill l P k place (fs.drop j) b = fill l P k place (fs.drop (j + 1)) (b.bind fun b => apF b place fs[j] (symPl l P k fs[j].2.2.1.toNat)) := by
  rw [List.drop_eq_getElem_cons h]
  rfl
theorem fill_none (l : List OD) (P : List (List Int)) (k : Nat) (place : Int) : ∀ fs, fill l P k place fs none = none
  | [] => rfl
  | f :: fs => by rw [fill, Option.bind_none, fill_none l P k place fs]
theorem imS_drop {l : List OD} {P : List (List Int)} {base : Int} {k : Nat} {ss : List SD} {j : Nat} (h : j < ss.length) (i : Nat) (im : Option (List Int)) : imS l P base k i (ss.drop j) im = imS l P base k (i + 1) (ss.drop (j + 1)) (im.bind fun im => (fill l P k (getP P k i) ss[j].fs (some ss[j].zs)).map fun b => over im (getP P k i - base).toNat b) := by
  rw [List.drop_eq_getElem_cons h]
  rfl
theorem imS_none (l : List OD) (P : List (List Int)) (base : Int) (k : Nat) : ∀ i ss, imS l P base k i ss none = none
  | _, [] => rfl
  | i, s :: ss => by rw [imS, Option.bind_none, imS_none l P base k (i + 1) ss]
theorem imO_drop {l : List OD} {P : List (List Int)} {base : Int} {ds : List OD} {j : Nat} (h : j < ds.length) (k : Nat) (im : Option (List Int)) : imO l P base k (ds.drop j) im = imO l P base (k + 1) (ds.drop (j + 1)) (imS l P base k 0 ds[j].ss im) := by
  rw [List.drop_eq_getElem_cons h]
  rfl
theorem imO_none (l : List OD) (P : List (List Int)) (base : Int) : ∀ k ds, imO l P base k ds none = none
  | _, [] => rfl
  | k, d :: ds => by rw [imO, imS_none, imO_none l P base (k + 1) ds]
def objsOk (l : List OD) : Bool := decide (l.length ≤ 4) && l.all objOk
def baseOk (b : Int) : Bool := decide (0 ≤ b ∧ b ≤ 4096) && decide (b % 8 = 0)
/-- An image and a fault. -/
abbrev RD := Int × List Int × Int
def imgR (base : Int) : Option (List Int) → RD
  | some im => (base, im, 0)
  | none => (0, [], 3)
def image (l : List OD) (base : Int) : Option (List Int) := imO l (lay l base).2 base 0 l (some (List.replicate ((lay l base).1 - base).toNat 0))
def linkR (l : List OD) (base : Int) : RD :=
  if (objsOk l && baseOk base) = false then (0, [], -1)
  else if 0 < (twice l).length then (0, [], 1)
  else if 0 < (miss l).length then (0, [], 2)
  else imgR base (image l base)
end Go.Proofs.Ytmglgjchemecjaa.PLink
/- findBound and findName: which symbol a name means. -/
namespace Go.Proofs.Ytmglgjchemecjaa.CFind
set_option maxRecDepth 200000
open Go.ChangeShapes Go.WideShapes Go.ChangeAt Go.RowKit Kit CCode CName CFixups CSymbols PObj BObj PValid CGlobalOf BList PLink
theorem find_name (l : List OD) (nm : ByteArray) : findN l nm = orG (fiO (gives nm 1) 0 l) (fiO (gives nm 2) 0 l) := rfl
/-- What is given back: where, and whether there is one. -/
def givV (r : Option G) : Value := .tuple #[.agg #[.int .i64 (gin r), .int .i64 (gat r)], .bool r.isSome]
def Lens (os : List OV) : Prop := os.length ≤ 1048576 ∧ ∀ o ∈ os, o.ys.length ≤ 1048576
set_option maxHeartbeats 2000000 in
theorem findBound_any (A : Option Addr) (os : List OV) (c : Nat) (nm : ByteArray) (b : Int) (w : World) (hr : RdOs w w.heap.size A os) (hm : Lens os) :
    Calls Try.prog 157 #[.slice A os.length c, .string nm, .int .i64 b] w (Ret (givV (fiO (gives nm b) 0 (os.map OV.d))) w) := by
  obtain ⟨hm1, hm2⟩ := hm
  have HY := hide hm2
  clear hm2
  have HB := hide (show Below w.heap.size w (w.alloc (.cells #[.int .i64 0, .int .i64 0] 117)) from (by repeat (first | exact Below.refl _ _ | with_reducible assumption | (refine Below.drew ?_) | (refine Below.drewN ?_ _) | (refine Below.alloc ?_ (by simp; try omega) _) | (refine Below.setCell ?_ (by simp; try omega) _))))
  have HX := hide (Box.new w 117 #[.int .i64 0, .int .i64 0])
  have HR := hide hr
  clear hr
  go_enter Try.func157, Try.ntmps157
  go_wp2_with fail
  generalize w.alloc (.cells #[.int .i64 0, .int .i64 0] 117) = w0 at *
  go_loopw [14] (fun i wi => ∃ k : Nat, k ≤ os.length ∧ i = .int .i64 k ∧ fiO (gives nm b) 0 (os.map OV.d) = fiO (gives nm b) k ((os.map OV.d).drop k) ∧ Box wi w.heap.size 117 #[.int .i64 0, .int .i64 0] ∧ Below w.heap.size w wi) (fun i _ => os.length - (intOf i).toNat)
  case atStart => exact ⟨0, Nat.zero_le _, rfl, rfl, HX.out, HB.out⟩
  case round =>
    clear HX HB
    obtain ⟨k, hk, rfl, hf, hx, hb⟩ := hrel
    have HX := hide hx
    have HB := hide hb
    by_cases hlt : k < os.length
    · obtain ⟨bb, off, hA, hbb, hc0, hc1⟩ := (HR.out.below hb).at hlt
      have hlm : k < (os.map OV.d).length := by simpa using hlt
      have HF := hide (hf.trans (fiO_drop hlm k))
      have HRO := hide (HR.out.2 _ (List.getElem_mem hlt))
      have hyl := HY.out _ (List.getElem_mem hlt)
      have HE := hide (show (os.map OV.d)[k].ys = os[k].ys by simp [OV.d])
      clear hf hx hb
      subst hA
      rw [HE.out] at HF
      clear HE
      generalize hrest : fiO (gives nm b) (k + 1) ((os.map OV.d).drop (k + 1)) = rest at *
      have HRS := hide hrest
      clear hrest
      generalize os[k] = o at *
      go_wp2_with fail
      have B1 : Below wr.heap.size wr (wr.alloc (.cells #[.slice o.A o.ps.length o.c, .slice o.Y o.ys.length o.yc] 26)) := (by repeat (first | exact Below.refl _ _ | with_reducible assumption | (refine Below.drew ?_) | (refine Below.drewN ?_ _) | (refine Below.alloc ?_ (by simp; try omega) _) | (refine Below.setCell ?_ (by simp; try omega) _)))
      have HO := hide (Box.new wr 26 #[.slice o.A o.ps.length o.c, .slice o.Y o.ys.length o.yc])
      replace HB := hide (HB.out.trans (B1.mono HB.out.size))
      replace HX := hide (HX.out.call B1)
      clear B1
      generalize wr.alloc (.cells #[.slice o.A o.ps.length o.c, .slice o.Y o.ys.length o.yc] 26) = w1 at *
      generalize wr.heap.size = X at *
      clear hc0 hc1
      have x1 := HO.out.cell 1
      simp only [List.getElem?_toArray, List.getElem?_cons_zero, List.getElem?_cons_succ] at x1
      have hxl := HO.out.lt
      go_wp2_with fail
      clear x1 hxl
      go_loopw [22] (fun i wi => ∃ j : Nat, j ≤ o.ys.length ∧ i = .int .i64 j ∧ fiO (gives nm b) 0 (os.map OV.d) = fiR (gives nm b) k (fiS (gives nm b) j (o.ys.drop j)) rest ∧ Box wi w.heap.size 117 #[.int .i64 0, .int .i64 0] ∧ Below w.heap.size w wi) (fun i _ => o.ys.length - (intOf i).toNat)
      case atStart => exact ⟨0, Nat.zero_le _, rfl, HF.out, HX.out, HB.out⟩
      case round =>
        clear HX HB HF HO
        obtain ⟨j, hj, rfl, hf, hx, hb⟩ := hrel
        have HX := hide hx
        have HB := hide hb
        by_cases hlj : j < o.ys.length
        · obtain ⟨b2, off2, hY, hb2, hc⟩ := (HRO.out.2.below hb).row symbolC_len (by decide) hlj
          have hc0 := hc 0 _ rfl
          have hc1 := hc 1 _ rfl
          have hc2 := hc 2 _ rfl
          have hc3 := hc 3 _ rfl
          simp only [Nat.add_zero] at hc0
          have HF := hide (hf.trans (by rw [fiS_drop hlj]))
          clear hf hx hb hc
          rw [hY]
          clear hY
          generalize o.ys[j] = z at *
          have HG := hide (show gives nm b z = ((z.1.toList == nm.toList) && (z.2.1 == b) && (z.2.2.1 != -1)) from by
            rw [str_eq]
            rfl)
          obtain ⟨z1, z2, z3, z4⟩ := z
          simp only at hc0 hc1 hc2 hc3 HG
          have HB2 := hide (HB.out.alloc HB.out.size (.cells #[.string z1, .int .i64 z2, .int .i64 z3, .int .i64 z4] 69))
          have HX2 := hide (HX.out.alloc (.cells #[.string z1, .int .i64 z2, .int .i64 z3, .int .i64 z4] 69))
          cases q1 : (z1.toList == nm.toList)
          · rw [q1, Bool.false_and, Bool.false_and] at HG
            have HF' := hide (HF.out.trans (by rw [HG.out]; try rfl))
            clear HF HG
            go_wp2_with fail
            refine ⟨⟨j + 1, by omega, by go_num, HF'.out, HX2.out, HB2.out⟩, by simp [intOf]; omega⟩
          cases q2 : (z2 == b)
          · rw [q1, q2, Bool.and_false, Bool.false_and] at HG
            have HF' := hide (HF.out.trans (by rw [HG.out]; try rfl))
            clear HF HG
            go_wp2_with fail
            refine ⟨⟨j + 1, by omega, by go_num, HF'.out, HX2.out, HB2.out⟩, by simp [intOf]; omega⟩
          cases q3 : (z3 != -1)
          · rw [q1, q2, q3, Bool.and_false] at HG
            have HF' := hide (HF.out.trans (by rw [HG.out]; try rfl))
            clear HF HG
            go_wp2_with fail
            refine ⟨⟨j + 1, by omega, by go_num, HF'.out, HX2.out, HB2.out⟩, by simp [intOf]; omega⟩
          rw [q1, q2, q3, Bool.and_true, Bool.and_true] at HG
          have HF' := hide (HF.out.trans (by rw [HG.out]; try rfl))
          clear HF HG
          have kk := (HX2.out.set 0 (.int .i64 k)).set 1 (.int .i64 j)
          have k0 := kk.cell 0
          have k1 := kk.cell 1
          simp only [List.setIfInBounds_toArray, List.set_cons_zero, List.set_cons_succ, List.getElem?_toArray, List.getElem?_cons_zero, List.getElem?_cons_succ] at k0 k1
          clear kk
          have hxl := HX2.out.lt
          have x0 := HX2.out.cell 0
          have x1 := HX2.out.cell 1
          simp only [List.getElem?_toArray, List.getElem?_cons_zero, List.getElem?_cons_succ] at x0 x1
          have xf0 := HX2.out.frozen 0
          have xf1 := HX2.out.frozen 1
          have HFB := hide (two_below (Y := w.heap.size) HB2.out (Nat.le_refl _) (.int .i64 k) (.int .i64 j))
          go_wp2_with fail
          (try simp only [Exit.inBlock, Exit.then])
          exact bodyPost_ret (v := givV (some (k, j))) (by simp [results, Try.results157, go_sem, givV, gin, gat, k0, k1]) rfl (by rw [HF'.out]; exact ⟨rfl, HFB.out⟩)
        · obtain rfl : j = o.ys.length := by omega
          have HF := hide (hf.trans (by rw [List.drop_length]; rfl : _ = rest))
          have HX := hide hx
          have HB := hide hb
          clear hf hx hb
          go_wp2_with fail
          refine ⟨⟨k + 1, by omega, by go_num, by rw [HRS.out]; exact HF.out, HX.out, HB.out⟩, by simp [intOf]; omega⟩
    · obtain rfl : k = os.length := by omega
      have HF := hide (hf.trans (by rw [List.drop_of_length_le (by simp)]; rfl : _ = none))
      clear hf hx hb
      have kk := (HX.out.set 0 (.int .i64 0)).set 1 (.int .i64 0)
      have k0 := kk.cell 0
      have k1 := kk.cell 1
      simp only [List.setIfInBounds_toArray, List.set_cons_zero, List.set_cons_succ, List.getElem?_toArray, List.getElem?_cons_zero, List.getElem?_cons_succ] at k0 k1
      clear kk
      have hxl := HX.out.lt
      have x0 := HX.out.cell 0
      have x1 := HX.out.cell 1
      simp only [List.getElem?_toArray, List.getElem?_cons_zero, List.getElem?_cons_succ] at x0 x1
      have xf0 := HX.out.frozen 0
      have xf1 := HX.out.frozen 1
      have HFB := hide (two_below (Y := w.heap.size) HB.out (Nat.le_refl _) (.int .i64 0) (.int .i64 0))
      go_wp2_with fail
      (try simp only [Exit.inBlock, Exit.then])
      exact bodyPost_ret (v := givV none) (by simp [results, Try.results157, go_sem, givV, gin, gat, k0, k1]) rfl (by rw [HF.out]; exact ⟨rfl, HFB.out⟩)
/-- The name's symbol: one that is given strongly, else one that is given weakly. -/
theorem findName_any (A : Option Addr) (os : List OV) (c : Nat) (nm : ByteArray) (w : World) (hr : RdOs w w.heap.size A os) (hm : Lens os) :
    Calls Try.prog 95 #[.slice A os.length c, .string nm] w (Ret (givV (findN (os.map OV.d) nm)) w) := by
  have HB := hide (show Below w.heap.size w (w.alloc (.cells #[.int .i64 0, .int .i64 0] 117)) from (by repeat (first | exact Below.refl _ _ | with_reducible assumption | (refine Below.drew ?_) | (refine Below.drewN ?_ _) | (refine Below.alloc ?_ (by simp; try omega) _) | (refine Below.setCell ?_ (by simp; try omega) _))))
  have HX := hide (Box.new w 117 #[.int .i64 0, .int .i64 0])
  have HR := hide hr
  clear hr
  go_enter Try.func95, Try.ntmps95
  go_wp2_with fail
  generalize w.alloc (.cells #[.int .i64 0, .int .i64 0] 117) = w0 at *
  refine (findBound_any A os c nm 1 w0 ((HR.out.below HB.out).more HB.out.size) hm).mono ?_
  rintro e w1 ⟨rfl, b1⟩
  replace HB := hide (HB.out.trans (b1.mono HB.out.size))
  replace HX := hide (HX.out.call b1)
  clear b1
  generalize hr1 : fiO (gives nm 1) 0 (os.map OV.d) = r at *
  have HR1 := hide hr1
  clear hr1
  cases r with
  | some g =>
    simp only [givV, gin, gat, Option.isSome]
    have kk := (((HX.out.alloc (.cells #[.int .i64 g.1, .int .i64 g.2] 117)).set 0 (.int .i64 g.1)).set 1 (.int .i64 g.2))
    have k0 := kk.cell 0
    have k1 := kk.cell 1
    simp only [List.setIfInBounds_toArray, List.set_cons_zero, List.set_cons_succ, List.getElem?_toArray, List.getElem?_cons_zero, List.getElem?_cons_succ] at k0 k1
    clear kk
    have HFB := hide (two_below (Y := w.heap.size) (HB.out.alloc HB.out.size (.cells #[.int .i64 g.1, .int .i64 g.2] 117)) (Nat.le_refl _) (.int .i64 g.1) (.int .i64 g.2))
    have HX2 := HX.out.alloc (.cells #[.int .i64 g.1, .int .i64 g.2] 117)
    have hxl := HX2.lt
    have x0 := HX2.cell 0
    have x1 := HX2.cell 1
    simp only [List.getElem?_toArray, List.getElem?_cons_zero, List.getElem?_cons_succ] at x0 x1
    have xf0 := HX2.frozen 0
    have xf1 := HX2.frozen 1
    clear HX2
    go_wp2_with fail
    exact bodyPost_ret (v := givV (some g)) (by simp [results, Try.results95, go_sem, givV, gin, gat, k0, k1]) rfl (by rw [find_name, HR1.out]; exact ⟨rfl, HFB.out⟩)
  | none =>
    simp only [givV, gin, gat, Option.isSome]
    go_wp2_with fail
    have B1 : Below w1.heap.size w1 (w1.alloc (.cells #[.int .i64 0, .int .i64 0] 117)) := (by repeat (first | exact Below.refl _ _ | with_reducible assumption | (refine Below.drew ?_) | (refine Below.drewN ?_ _) | (refine Below.alloc ?_ (by simp; try omega) _) | (refine Below.setCell ?_ (by simp; try omega) _)))
    replace HB := hide (HB.out.trans (B1.mono HB.out.size))
    replace HX := hide (HX.out.call B1)
    clear B1
    generalize w1.alloc (.cells #[.int .i64 0, .int .i64 0] 117) = w2 at *
    refine (findBound_any A os c nm 2 w2 ((HR.out.below HB.out).more HB.out.size) hm).mono ?_
    rintro e w3 ⟨rfl, b3⟩
    replace HB := hide (HB.out.trans (b3.mono HB.out.size))
    replace HX := hide (HX.out.call b3)
    clear b3
    generalize hr2 : fiO (gives nm 2) 0 (os.map OV.d) = r at *
    have HR2 := hide hr2
    clear hr2
    simp only [givV]
    have kk := ((HX.out.set 0 (.int .i64 (gin r))).set 1 (.int .i64 (gat r)))
    have k0 := kk.cell 0
    have k1 := kk.cell 1
    simp only [List.setIfInBounds_toArray, List.set_cons_zero, List.set_cons_succ, List.getElem?_toArray, List.getElem?_cons_zero, List.getElem?_cons_succ] at k0 k1
    clear kk
    have HFB := hide (two_below (Y := w.heap.size) HB.out (Nat.le_refl _) (.int .i64 (gin r)) (.int .i64 (gat r)))
    have hxl := HX.out.lt
    have x0 := HX.out.cell 0
    have x1 := HX.out.cell 1
    simp only [List.getElem?_toArray, List.getElem?_cons_zero, List.getElem?_cons_succ] at x0 x1
    have xf0 := HX.out.frozen 0
    have xf1 := HX.out.frozen 1
    go_wp2_with fail
    exact bodyPost_ret (v := givV r) (by simp [results, Try.results95, go_sem, givV, k0, k1]) rfl (by rw [find_name, HR1.out, HR2.out]; exact ⟨rfl, HFB.out⟩)
end Go.Proofs.Ytmglgjchemecjaa.CFind
