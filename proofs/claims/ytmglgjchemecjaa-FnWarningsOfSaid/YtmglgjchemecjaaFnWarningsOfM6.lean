/- The reference's ObjectValid. -/
import Derived.Test.YtmglgjchemecjaaFnWarningsOfM5
import Derived.BigQuiet
namespace Go.Proofs.Ytmglgjchemecjaa.CObjValidS
set_option maxRecDepth 200000
open Go.ChangeShapes Go.WideShapes Go.ChangeAt Go.RowKit Kit CCode CName CFixups CSymbols PObj BObj PValid CSecValid CSecValid2 CSecValid3 CSymValid CGlobalOf CObjValid
theorem obj_sizes {d : OD} (h3 : ∀ p ∈ d.ss, secOk d.ys.length p = true) (h4 : ∀ k, (h : k < d.ys.length) → symAt d.ss d.ys k d.ys[k] = true) : objOk d = (decide (d.ss.length ≤ 8) && decide (d.ys.length ≤ 12)) := by
  by_cases h1 : d.ss.length ≤ 8
  · by_cases h2 : d.ys.length ≤ 12
    · rw [obj_yes h1 h2 h3 h4, decide_eq_true h1, decide_eq_true h2]
      rfl
    · rw [obj_big (.inr (by omega)), decide_eq_false h2, Bool.and_false]
  · rw [obj_big (.inl (by omega)), decide_eq_false h1, Bool.false_and]
set_option maxHeartbeats 4000000 in
theorem objectValidS_any (o : OV) (w : World) (hr : RdO w w.heap.size o) (hf : Fit o) :
    Calls Try.prog 29 #[.agg #[.slice o.A o.ps.length o.c, .slice o.Y o.ys.length o.yc]] w (Ret (.bool (objOk o.d)) w) := by
  obtain ⟨A, c, ps, Y, yc, ys⟩ := o
  obtain ⟨np, ny, cy, hp, hy⟩ := hf
  simp only [OV.d] at np ny cy hp hy ⊢
  have HR := hide hr
  have HL := hide (And.intro hp hy)
  clear hr hp hy
  have B0 : Below w.heap.size w (w.alloc (.cells #[.slice A ps.length c, .slice Y ys.length yc] 26)) := (by repeat (first | exact Below.refl _ _ | with_reducible assumption | (refine Below.drew ?_) | (refine Below.drewN ?_ _) | (refine Below.alloc ?_ (by simp; try omega) _) | (refine Below.setCell ?_ (by simp; try omega) _)))
  have X0 := Box.new w 26 #[.slice A ps.length c, .slice Y ys.length yc]
  have HB := hide B0
  clear B0
  go_enter Try.func29, Try.ntmps29
  go_wp2_with fail
  generalize w.alloc (.cells #[.slice A ps.length c, .slice Y ys.length yc] 26) = w0 at *
  go_loopw [3] (fun i wi => ∃ k : Nat, k ≤ ps.length ∧ i = .int .i64 k ∧ (∀ p ∈ ps.take k, secOk ys.length p.d = true) ∧ Box wi w.heap.size 26 #[.slice A ps.length c, .slice Y ys.length yc] ∧ Below w.heap.size w wi) (fun i _ => ps.length - (intOf i).toNat)
  case atStart => exact ⟨0, Nat.zero_le _, rfl, fun p hp => by simp at hp, X0, HB.out⟩
  case round =>
    obtain ⟨k, hk, rfl, hok, hx, hb⟩ := hrel
    have HO := hide hok
    have HX := hide hx
    have HBI := hide hb
    clear X0 HB
    have x0 := hx.cell 0
    have x1 := hx.cell 1
    simp only [List.getElem?_toArray, List.getElem?_cons_zero, List.getElem?_cons_succ] at x0 x1
    have hxl := hx.lt
    by_cases hlt : k < ps.length
    · obtain ⟨b, off, hA, hbg, hc⟩ := (HR.out.1.1.below hb).row secC_len (by decide) hlt
      subst hA
      have hbw : b < wr.heap.size := Nat.lt_of_lt_of_le hbg hb.size
      have hc0 := hc 0 _ rfl
      have hc1 := hc 1 _ rfl
      have hc2 := hc 2 _ rfl
      have hc3 := hc 3 _ rfl
      have hc4 := hc 4 _ rfl
      have hc5 := hc 5 _ rfl
      simp only [Nat.add_zero] at hc0
      have HM := hide (HL.out.1 _ (List.getElem_mem hlt))
      have HRS := hide (HR.out.1.2 _ (List.getElem_mem hlt))
      have HS := hide (fun (h : secOk ys.length ps[k].d = true) => (show ∀ p ∈ ps.take (k + 1), secOk ys.length p.d = true from fun p hp => by
        rw [take_succ hlt] at hp
        rcases List.mem_append.1 hp with hp | hp
        · exact HO.out p hp
        · rw [List.mem_singleton.1 hp]; exact h))
      have HF := hide (fun (h : secOk ys.length ps[k].d = false) => obj_sec (d := ⟨ps.map SV.d, ys⟩) (List.mem_map_of_mem (List.getElem_mem hlt)) h)
      clear hok hx hb hc HO
      generalize ps[k] = p at *
      go_wp2_with fail
      have HSS : Hid (∀ V : World, Below wr.heap.size wr V → (V.cell? ⟨w.heap.size, 0, none⟩ = some (.slice (some ⟨b, off, none⟩) ps.length c) ∧ V.cell? ⟨w.heap.size, 1, none⟩ = some (.slice Y ys.length yc) ∧ V.cell? ⟨b, off + k * 6, none⟩ = some (.string p.nm) ∧ V.cell? ⟨b, off + k * 6 + 1, none⟩ = some (.int .i64 p.kd) ∧ V.cell? ⟨b, off + k * 6 + 2, none⟩ = some (.int .i64 p.al) ∧ V.cell? ⟨b, off + k * 6 + 3, none⟩ = some (.slice p.A p.zs.length p.c) ∧ V.cell? ⟨b, off + k * 6 + 4, none⟩ = some (.int .i64 p.sz) ∧ V.cell? ⟨b, off + k * 6 + 5, none⟩ = some (.slice p.F p.fs.length p.fc))) := hide (fun V hV => ⟨(hV.cell (p := ⟨w.heap.size, 0, none⟩) hxl).trans x0, (hV.cell (p := ⟨w.heap.size, 1, none⟩) hxl).trans x1, (hV.cell (p := ⟨b, off + k * 6, none⟩) hbw).trans hc0, (hV.cell (p := ⟨b, off + k * 6 + 1, none⟩) hbw).trans hc1, (hV.cell (p := ⟨b, off + k * 6 + 2, none⟩) hbw).trans hc2, (hV.cell (p := ⟨b, off + k * 6 + 3, none⟩) hbw).trans hc3, (hV.cell (p := ⟨b, off + k * 6 + 4, none⟩) hbw).trans hc4, (hV.cell (p := ⟨b, off + k * 6 + 5, none⟩) hbw).trans hc5⟩)
      clear hc0 hc1 hc2 hc3 hc4 hc5 x0 x1
      refine Reg.startT (fun V => V.cell? ⟨w.heap.size, 0, none⟩ = some (.slice (some ⟨b, off, none⟩) ps.length c) ∧ V.cell? ⟨w.heap.size, 1, none⟩ = some (.slice Y ys.length yc) ∧ V.cell? ⟨b, off + k * 6, none⟩ = some (.string p.nm) ∧ V.cell? ⟨b, off + k * 6 + 1, none⟩ = some (.int .i64 p.kd) ∧ V.cell? ⟨b, off + k * 6 + 2, none⟩ = some (.int .i64 p.al) ∧ V.cell? ⟨b, off + k * 6 + 3, none⟩ = some (.slice p.A p.zs.length p.c) ∧ V.cell? ⟨b, off + k * 6 + 4, none⟩ = some (.int .i64 p.sz) ∧ V.cell? ⟨b, off + k * 6 + 5, none⟩ = some (.slice p.F p.fs.length p.fc)) (fun _ => false) (by kernel_rfl) ?_
      have hHeld := HSS.out wr.drew (Below.drew (Below.refl _ _))
      refine Reg.takeT (i := 0) (v := ?_) rfl (by kernel_rfl) (by kernel_rfl) (by kernel_rfl) (by kernel_rfl) (fun _ _ _ h => h) (Or.inl ⟨by rfl, ?_⟩) (by assumption) ?_
      rotate_left 1
      focus (intro w hSw; (try dsimp only at hSw); go_simp; (try with_reducible rfl))
      try simp only [List.getElem_toArray, List.getElem_cons_succ, List.getElem_cons_zero, Act.put, List.setIfInBounds_toArray, List.set_cons_zero, List.set_cons_succ]
      refine Reg.takeT (i := 1) (v := ?_) rfl (by kernel_rfl) (by kernel_rfl) (by kernel_rfl) (by kernel_rfl) (fun _ _ _ h => h) (Or.inl ⟨by rfl, ?_⟩) (by assumption) ?_
      rotate_left 1
      focus (intro w hSw; (try dsimp only at hSw); go_simp; (try with_reducible rfl))
      try simp only [List.getElem_toArray, List.getElem_cons_succ, List.getElem_cons_zero, Act.put, List.setIfInBounds_toArray, List.set_cons_zero, List.set_cons_succ]
      refine Reg.takeT (i := 2) (v := ?_) rfl (by kernel_rfl) (by kernel_rfl) (by kernel_rfl) (by kernel_rfl) (fun _ _ _ h => h) (Or.inl ⟨by rfl, ?_⟩) (by assumption) ?_
      rotate_left 1
      focus (intro w hSw; (try dsimp only at hSw); go_simp; (try with_reducible rfl))
      try simp only [List.getElem_toArray, List.getElem_cons_succ, List.getElem_cons_zero, Act.put, List.setIfInBounds_toArray, List.set_cons_zero, List.set_cons_succ]
      refine Reg.takeT (i := 3) (v := ?_) rfl (by kernel_rfl) (by kernel_rfl) (by kernel_rfl) (by kernel_rfl) (fun _ _ _ h => h) (Or.inl ⟨by rfl, ?_⟩) (by assumption) ?_
      rotate_left 1
      focus (intro w hSw; (try dsimp only at hSw); go_simp; (try with_reducible rfl))
      try simp only [List.getElem_toArray, List.getElem_cons_succ, List.getElem_cons_zero, Act.put, List.setIfInBounds_toArray, List.set_cons_zero, List.set_cons_succ]
      refine Reg.takeT (i := 4) (v := ?_) rfl (by kernel_rfl) (by kernel_rfl) (by kernel_rfl) (by kernel_rfl) (fun _ _ _ h => h) (Or.inl ⟨by rfl, ?_⟩) (by assumption) ?_
      rotate_left 1
      focus (intro w hSw; (try dsimp only at hSw); go_simp; (try with_reducible rfl))
      try simp only [List.getElem_toArray, List.getElem_cons_succ, List.getElem_cons_zero, Act.put, List.setIfInBounds_toArray, List.set_cons_zero, List.set_cons_succ]
      refine Reg.takeT (i := 5) (v := ?_) rfl (by kernel_rfl) (by kernel_rfl) (by kernel_rfl) (by kernel_rfl) (fun _ _ _ h => h) (Or.inl ⟨by rfl, ?_⟩) (by assumption) ?_
      rotate_left 1
      focus (intro w hSw; (try dsimp only at hSw); go_simp; (try with_reducible rfl))
      try simp only [List.getElem_toArray, List.getElem_cons_succ, List.getElem_cons_zero, Act.put, List.setIfInBounds_toArray, List.set_cons_zero, List.set_cons_succ]
      refine Reg.takeT (i := 6) (v := ?_) rfl (by kernel_rfl) (by kernel_rfl) (by kernel_rfl) (by kernel_rfl) (fun _ _ _ h => h) (Or.inl ⟨by rfl, ?_⟩) (by assumption) ?_
      rotate_left 1
      focus (intro w hSw; (try dsimp only at hSw); go_simp; (try with_reducible rfl))
      try simp only [List.getElem_toArray, List.getElem_cons_succ, List.getElem_cons_zero, Act.put, List.setIfInBounds_toArray, List.set_cons_zero, List.set_cons_succ]
      refine Reg.takeT (i := 7) (v := ?_) rfl (by kernel_rfl) (by kernel_rfl) (by kernel_rfl) (by kernel_rfl) (fun _ _ _ h => h) (Or.inl ⟨by rfl, ?_⟩) (by assumption) ?_
      rotate_left 1
      focus (intro w hSw; (try dsimp only at hSw); go_simp; (try with_reducible rfl))
      try simp only [List.getElem_toArray, List.getElem_cons_succ, List.getElem_cons_zero, Act.put, List.setIfInBounds_toArray, List.set_cons_zero, List.set_cons_succ]
      refine Reg.oneT (i := 8) rfl (by kernel_rfl) (fun K hK => ?_)
      go_simp
      refine (sectionValidS_any p ys.length _ ((HRS.out.below (Below.drew HBI.out)).more (Below.drew HBI.out).size) HM.out.1 HM.out.2.1 HM.out.2.2).mono ?_
      rintro e w2 ⟨rfl, b2⟩
      have b2' := of_drew b2
      have hHeld := HSS.out w2 b2'
      refine hK.out _ _ hHeld ?_
      clear hK K
      try simp only [List.getElem_toArray, List.getElem_cons_succ, List.getElem_cons_zero, Act.put, List.setIfInBounds_toArray, List.set_cons_zero, List.set_cons_succ]
      have HX2 := hide (HX.out.call b2')
      have HB2 := hide (HBI.out.trans (b2'.mono HBI.out.size))
      clear b2 b2' HX HBI HSS
      cases hs : secOk ys.length p.d
      · have HV := hide (HF.out hs)
        clear HF HS hs
        refine Reg.takeT (i := 9) (v := ?_) rfl (by kernel_rfl) (by kernel_rfl) (by kernel_rfl) (by kernel_rfl) (fun _ _ _ h => h) (Or.inl ⟨by rfl, ?_⟩) (by assumption) ?_
        rotate_left 1
        focus (intro w hSw; (try dsimp only at hSw); go_simp; (try with_reducible rfl))
        try simp only [List.getElem_toArray, List.getElem_cons_succ, List.getElem_cons_zero, Act.put, List.setIfInBounds_toArray, List.set_cons_zero, List.set_cons_succ]
        refine Reg.doneT (by kernel_rfl) ?_ _
        clear hHeld
        go_wp2_with fail
        go_ret
        exact ⟨by rw [HV.out]; rfl, HB2.out⟩
      · have HS' := hide (HS.out hs)
        clear HF HS hs
        refine Reg.takeT (i := 9) (v := ?_) rfl (by kernel_rfl) (by kernel_rfl) (by kernel_rfl) (by kernel_rfl) (fun _ _ _ h => h) (Or.inl ⟨by rfl, ?_⟩) (by assumption) ?_
        rotate_left 1
        focus (intro w hSw; (try dsimp only at hSw); go_simp; (try with_reducible rfl))
        try simp only [List.getElem_toArray, List.getElem_cons_succ, List.getElem_cons_zero, Act.put, List.setIfInBounds_toArray, List.set_cons_zero, List.set_cons_succ]
        refine Reg.doneT (by kernel_rfl) ?_ _
        clear hHeld
        go_wp2_with fail
        refine ⟨⟨k + 1, by omega, by go_num, HS'.out, HX2.out, HB2.out⟩, by simp [intOf]; omega⟩
    · have HALL := hide (show ∀ p ∈ ps.map SV.d, secOk ys.length p = true from fun p hp => by
        obtain ⟨q, hq, rfl⟩ := List.mem_map.1 hp
        exact HO.out q (by rw [List.take_of_length_le (by omega)]; exact hq))
      clear HO hok hx hb
      go_wp2_with fail
      clear x0 x1
      go_loopw [4] (fun i wi => ∃ k : Nat, k ≤ ys.length ∧ i = .int .i64 k ∧ (∀ j, (h : j < ys.length) → j < k → symAt (ps.map SV.d) ys j ys[j] = true) ∧ Box wi w.heap.size 26 #[.slice A ps.length c, .slice Y ys.length yc] ∧ Below w.heap.size w wi) (fun i _ => ys.length - (intOf i).toNat)
      case atStart => exact ⟨0, Nat.zero_le _, rfl, fun j _ hj => absurd hj (Nat.not_lt_zero j), HX.out, HBI.out⟩
      case round =>
        obtain ⟨k, hk, rfl, hok, hx, hb⟩ := hrel
        clear HX HBI hxl
        have HO := hide hok
        have HX := hide hx
        have HBI := hide hb
        have x0 := hx.cell 0
        have x1 := hx.cell 1
        simp only [List.getElem?_toArray, List.getElem?_cons_zero, List.getElem?_cons_succ] at x0 x1
        have hxl := hx.lt
        by_cases hlt : k < ys.length
        · obtain ⟨b, off, hY, hbg, hc⟩ := (HR.out.2.below hb).row symbolC_len (by decide) hlt
          have hbw : b < wr.heap.size := Nat.lt_of_lt_of_le hbg hb.size
          have hc0 := hc 0 _ rfl
          have hc1 := hc 1 _ rfl
          have hc2 := hc 2 _ rfl
          have hc3 := hc 3 _ rfl
          simp only [Nat.add_zero] at hc0
          have HM := hide (HL.out.2 _ (List.getElem_mem hlt))
          have HS := hide (fun (h : symAt (ps.map SV.d) ys k ys[k] = true) => (show ∀ j, (h : j < ys.length) → j < k + 1 → symAt (ps.map SV.d) ys j ys[j] = true from fun j hj hjk => by
            rcases Nat.lt_or_ge j k with h' | h'
            · exact HO.out j hj h'
            · obtain rfl : j = k := by omega
              exact h))
          have HF := hide (fun (h : symAt (ps.map SV.d) ys k ys[k] = false) => obj_sym (d := ⟨ps.map SV.d, ys⟩) hlt h)
          clear hok hx hb hc HO
          unfold symAt at HS HF
          generalize ys[k] = z at *
          obtain ⟨zn, zb, zw, zv⟩ := z
          simp only at HM hc0 hc1 hc2 hc3 HS HF
          subst hY
          go_wp2_with fail
          have HSS : Hid (∀ V : World, Below wr.heap.size wr V → (V.cell? ⟨w.heap.size, 0, none⟩ = some (.slice A ps.length c) ∧ V.cell? ⟨w.heap.size, 1, none⟩ = some (.slice (some ⟨b, off, none⟩) ys.length yc) ∧ V.cell? ⟨b, off + k * 4, none⟩ = some (.string zn) ∧ V.cell? ⟨b, off + k * 4 + 1, none⟩ = some (.int .i64 zb) ∧ V.cell? ⟨b, off + k * 4 + 2, none⟩ = some (.int .i64 zw) ∧ V.cell? ⟨b, off + k * 4 + 3, none⟩ = some (.int .i64 zv))) := hide (fun V hV => ⟨(hV.cell (p := ⟨w.heap.size, 0, none⟩) hxl).trans x0, (hV.cell (p := ⟨w.heap.size, 1, none⟩) hxl).trans x1, (hV.cell (p := ⟨b, off + k * 4, none⟩) hbw).trans hc0, (hV.cell (p := ⟨b, off + k * 4 + 1, none⟩) hbw).trans hc1, (hV.cell (p := ⟨b, off + k * 4 + 2, none⟩) hbw).trans hc2, (hV.cell (p := ⟨b, off + k * 4 + 3, none⟩) hbw).trans hc3⟩)
          clear hc0 hc1 hc2 hc3 x0 x1
          refine Reg.startT (fun V => V.cell? ⟨w.heap.size, 0, none⟩ = some (.slice A ps.length c) ∧ V.cell? ⟨w.heap.size, 1, none⟩ = some (.slice (some ⟨b, off, none⟩) ys.length yc) ∧ V.cell? ⟨b, off + k * 4, none⟩ = some (.string zn) ∧ V.cell? ⟨b, off + k * 4 + 1, none⟩ = some (.int .i64 zb) ∧ V.cell? ⟨b, off + k * 4 + 2, none⟩ = some (.int .i64 zw) ∧ V.cell? ⟨b, off + k * 4 + 3, none⟩ = some (.int .i64 zv)) (fun _ => false) (by kernel_rfl) ?_
          have hHeld := HSS.out wr.drew (Below.drew (Below.refl _ _))
          refine Reg.takeT (i := 0) (v := ?_) rfl (by kernel_rfl) (by kernel_rfl) (by kernel_rfl) (by kernel_rfl) (fun _ _ _ h => h) (Or.inl ⟨by rfl, ?_⟩) (by assumption) ?_
          rotate_left 1
          focus (intro w hSw; (try dsimp only at hSw); go_simp; (try with_reducible rfl))
          try simp only [List.getElem_toArray, List.getElem_cons_succ, List.getElem_cons_zero, Act.put, List.setIfInBounds_toArray, List.set_cons_zero, List.set_cons_succ]
          refine Reg.takeT (i := 1) (v := ?_) rfl (by kernel_rfl) (by kernel_rfl) (by kernel_rfl) (by kernel_rfl) (fun _ _ _ h => h) (Or.inl ⟨by rfl, ?_⟩) (by assumption) ?_
          rotate_left 1
          focus (intro w hSw; (try dsimp only at hSw); go_simp; (try with_reducible rfl))
          try simp only [List.getElem_toArray, List.getElem_cons_succ, List.getElem_cons_zero, Act.put, List.setIfInBounds_toArray, List.set_cons_zero, List.set_cons_succ]
          refine Reg.takeT (i := 2) (v := ?_) rfl (by kernel_rfl) (by kernel_rfl) (by kernel_rfl) (by kernel_rfl) (fun _ _ _ h => h) (Or.inl ⟨by rfl, ?_⟩) (by assumption) ?_
          rotate_left 1
          focus (intro w hSw; (try dsimp only at hSw); go_simp; (try with_reducible rfl))
          try simp only [List.getElem_toArray, List.getElem_cons_succ, List.getElem_cons_zero, Act.put, List.setIfInBounds_toArray, List.set_cons_zero, List.set_cons_succ]
          refine Reg.takeT (i := 3) (v := ?_) rfl (by kernel_rfl) (by kernel_rfl) (by kernel_rfl) (by kernel_rfl) (fun _ _ _ h => h) (Or.inl ⟨by rfl, ?_⟩) (by assumption) ?_
          rotate_left 1
          focus (intro w hSw; (try dsimp only at hSw); go_simp; (try with_reducible rfl))
          try simp only [List.getElem_toArray, List.getElem_cons_succ, List.getElem_cons_zero, Act.put, List.setIfInBounds_toArray, List.set_cons_zero, List.set_cons_succ]
          refine Reg.takeT (i := 4) (v := ?_) rfl (by kernel_rfl) (by kernel_rfl) (by kernel_rfl) (by kernel_rfl) (fun _ _ _ h => h) (Or.inl ⟨by rfl, ?_⟩) (by assumption) ?_
          rotate_left 1
          focus (intro w hSw; (try dsimp only at hSw); go_simp; (try with_reducible rfl))
          try simp only [List.getElem_toArray, List.getElem_cons_succ, List.getElem_cons_zero, Act.put, List.setIfInBounds_toArray, List.set_cons_zero, List.set_cons_succ]
          refine Reg.takeT (i := 5) (v := ?_) rfl (by kernel_rfl) (by kernel_rfl) (by kernel_rfl) (by kernel_rfl) (fun _ _ _ h => h) (Or.inl ⟨by rfl, ?_⟩) (by assumption) ?_
          rotate_left 1
          focus (intro w hSw; (try dsimp only at hSw); go_simp; (try with_reducible rfl))
          try simp only [List.getElem_toArray, List.getElem_cons_succ, List.getElem_cons_zero, Act.put, List.setIfInBounds_toArray, List.set_cons_zero, List.set_cons_succ]
          refine Reg.takeT (i := 6) (v := ?_) rfl (by kernel_rfl) (by kernel_rfl) (by kernel_rfl) (by kernel_rfl) (fun _ _ _ h => h) (Or.inl ⟨by rfl, ?_⟩) (by assumption) ?_
          rotate_left 1
          focus (intro w hSw; (try dsimp only at hSw); go_simp; (try with_reducible rfl))
          try simp only [List.getElem_toArray, List.getElem_cons_succ, List.getElem_cons_zero, Act.put, List.setIfInBounds_toArray, List.set_cons_zero, List.set_cons_succ]
          refine Reg.oneT (i := 7) rfl (by kernel_rfl) (fun K hK => ?_)
          go_simp
          refine (symbolValidS_any (zn, zb, zw, zv) A ps c _ ((HR.out.1.1.below (Below.drew HBI.out)).more (Below.drew HBI.out).size) np HM.out (fun p hp => Nat.le_trans (HL.out.1 p hp).2.1 (by decide))).mono ?_
          rintro e w3 ⟨rfl, b3⟩
          have b3' := of_drew b3
          have hHeld := HSS.out w3 b3'
          refine hK.out _ _ hHeld ?_
          clear hK K
          try simp only [List.getElem_toArray, List.getElem_cons_succ, List.getElem_cons_zero, Act.put, List.setIfInBounds_toArray, List.set_cons_zero, List.set_cons_succ]
          have HX3 := hide (HX.out.call b3')
          have HB3 := hide (HBI.out.trans (b3'.mono HBI.out.size))
          clear b3 b3' HX HBI HSS
          cases hs : symOk (ps.map SV.d) (zn, zb, zw, zv)
          · have HV := hide (HF.out (by rw [hs]; rfl))
            clear HF HS hs
            refine Reg.takeT (i := 8) (v := ?_) rfl (by kernel_rfl) (by kernel_rfl) (by kernel_rfl) (by kernel_rfl) (fun _ _ _ h => h) (Or.inl ⟨by rfl, ?_⟩) (by assumption) ?_
            rotate_left 1
            focus (intro w hSw; (try dsimp only at hSw); go_simp; (try with_reducible rfl))
            try simp only [List.getElem_toArray, List.getElem_cons_succ, List.getElem_cons_zero, Act.put, List.setIfInBounds_toArray, List.set_cons_zero, List.set_cons_succ]
            refine Reg.doneT (by kernel_rfl) ?_ _
            clear hHeld
            go_wp2_with fail
            go_ret
            exact ⟨by rw [HV.out]; rfl, HB3.out⟩
          rw [hs] at HS HF
          clear hs
          refine Reg.takeT (i := 8) (v := ?_) rfl (by kernel_rfl) (by kernel_rfl) (by kernel_rfl) (by kernel_rfl) (fun _ _ _ h => h) (Or.inl ⟨by rfl, ?_⟩) (by assumption) ?_
          rotate_left 1
          focus (intro w hSw; (try dsimp only at hSw); go_simp; (try with_reducible rfl))
          try simp only [List.getElem_toArray, List.getElem_cons_succ, List.getElem_cons_zero, Act.put, List.setIfInBounds_toArray, List.set_cons_zero, List.set_cons_succ]
          refine Reg.doneT (by kernel_rfl) ?_ _
          obtain ⟨_, _, z0, z1, z2, z3⟩ := hHeld
          have HZ := hide (And.intro z0 z1)
          have hb3 : b < w3.heap.size := World.block_lt_of_cell? _ _ z0
          clear z0 z1 z2 z3
          go_wp2_with fail
          go_loopw [5] (fun jj wi => ∃ j : Nat, j ≤ k ∧ jj = .int .i64 j ∧ (!decide (zb = 0) && (ys.take j).any (hit zn)) = false ∧ wi.cell? ⟨b, off + k * 4, none⟩ = some (.string zn) ∧ wi.cell? ⟨b, off + k * 4 + 1, none⟩ = some (.int .i64 zb) ∧ Box wi w.heap.size 26 #[.slice A ps.length c, .slice (some ⟨b, off, none⟩) ys.length yc] ∧ Below w.heap.size w wi) (fun jj _ => k - (intOf jj).toNat)
          case atStart => exact ⟨0, Nat.zero_le _, rfl, by simp, HZ.out.1, HZ.out.2, HX3.out, HB3.out⟩
          case round =>
            clear HX3 HB3 HZ hb3 hxl hbw
            obtain ⟨j, hj, rfl, hno, z0, z1, hx, hb⟩ := hrel
            have HX := hide hx
            have HBI := hide hb
            have x0 := hx.cell 0
            have x1 := hx.cell 1
            simp only [List.getElem?_toArray, List.getElem?_cons_zero, List.getElem?_cons_succ] at x0 x1
            have hxl := hx.lt
            by_cases hjk : j < k
            · have hjy : j < ys.length := by omega
              obtain ⟨b', off', hY', hbg', hc⟩ := (HR.out.2.below hb).row symbolC_len (by decide) hjy
              simp only [Option.some.injEq, Addr.mk.injEq, and_true] at hY'
              obtain ⟨rfl, rfl⟩ := hY'
              have hc0 := hc 0 _ rfl
              have hc1 := hc 1 _ rfl
              simp only [Nat.add_zero] at hc0
              have HT := hide (show (!decide (zb = 0) && (ys.take (j + 1)).any (hit zn)) = (!decide (zb = 0) && hit zn ys[j]) by
                rw [take_succ hjy, List.any_append]
                cases hzz : (!decide (zb = 0))
                · rfl
                · rw [hzz, Bool.true_and] at hno
                  rw [hno]
                  simp)
              have HA := hide (show (!decide (zb = 0) && hit zn ys[j]) = true → (!decide (zb = 0) && (ys.take k).any (hit zn)) = true from fun h => by
                rw [Bool.and_eq_true] at h ⊢
                exact ⟨h.1, List.any_eq_true.2 ⟨ys[j], by
                  rw [List.mem_take_iff_getElem]
                  exact ⟨j, by omega, rfl⟩, h.2⟩⟩)
              clear hno hx hb hc
              generalize ys[j] = x at *
              obtain ⟨xn, xb, xw, xv⟩ := x
              simp only [hit] at hc0 hc1 HT HA
              by_cases h1 : xn = zn
              · have e1 : (xn.toList == zn.toList) = true := by rw [str_eq, decide_eq_true h1]
                rw [decide_eq_true h1] at HT HA
                by_cases h2 : xb = 0
                · have e2 : (xb != 0) = false := by rw [h2]; rfl
                  rw [decide_eq_true h2] at HT HA
                  have HT' := hide (show (!decide (zb = 0) && (ys.take (j + 1)).any (hit zn)) = false by rw [HT.out]; simp)
                  clear h1 h2 HT HA
                  go_wp2_with fail
                  go_quiet (fail)
                  go_wp2_with fail
                  refine ⟨⟨j + 1, by omega, by go_num, HT'.out, z0, z1, HX.out.drewN _, Kit.Below.drewN HBI.out _⟩, by simp [intOf]; omega⟩
                · have e2 : (xb != 0) = true := bne_iff_ne.2 h2
                  rw [decide_eq_false h2] at HT HA
                  by_cases h3 : zb = 0
                  · have e3 : (zb != 0) = false := by rw [h3]; rfl
                    rw [decide_eq_true h3] at HT HA
                    have HT' := hide (show (!decide (zb = 0) && (ys.take (j + 1)).any (hit zn)) = false by rw [decide_eq_true h3]; rfl)
                    clear h1 h2 h3 HT HA
                    go_wp2_with fail
                    go_quiet (fail)
                    go_wp2_with fail
                    refine ⟨⟨j + 1, by omega, by go_num, HT'.out, z0, z1, HX.out.drewN _, Kit.Below.drewN HBI.out _⟩, by simp [intOf]; omega⟩
                  · have e3 : (zb != 0) = true := bne_iff_ne.2 h3
                    rw [decide_eq_false h3] at HA
                    have HV := hide (HF.out (by rw [decide_eq_false h3, HA.out rfl]; rfl))
                    clear h1 h2 h3 HT HA
                    go_wp2_with fail
                    go_quiet (fail)
                    go_wp2_with fail
                    go_ret
                    exact ⟨by rw [HV.out]; rfl, Kit.Below.drewN HBI.out _⟩
              · have e1 : (xn.toList == zn.toList) = false := by rw [str_eq, decide_eq_false h1]
                rw [decide_eq_false h1] at HT HA
                have HT' := hide (show (!decide (zb = 0) && (ys.take (j + 1)).any (hit zn)) = false by rw [HT.out]; simp)
                clear h1 HT HA
                go_wp2_with fail
                go_quiet (fail)
                go_wp2_with fail
                refine ⟨⟨j + 1, by omega, by go_num, HT'.out, z0, z1, HX.out.drewN _, Kit.Below.drewN HBI.out _⟩, by simp [intOf]; omega⟩
            · have e : j = k := by omega
              subst e
              have HS' := hide (HS.out (by rw [hno]; rfl))
              clear HS HF hno hx hb x0 x1 z0 z1
              go_wp2_with fail
              refine ⟨⟨j + 1, by omega, by go_num, HS'.out, HX.out, HBI.out⟩, by simp [intOf]; omega⟩
        · have HV := hide ((obj_sizes (d := ⟨ps.map SV.d, ys⟩) HALL.out (fun j hj => HO.out j hj (Nat.lt_of_lt_of_le hj (show ys.length ≤ k by omega)))).trans (show _ = (decide (ps.length ≤ 8) && decide (ys.length ≤ 12)) by simp))
          clear HO hok hx hb
          by_cases h1 : ps.length ≤ 8
          · have e1 : decide ((ps.length : Int) ≤ 8) = true := decide_eq_true (by omega)
            rw [decide_eq_true h1] at HV
            by_cases h2 : ys.length ≤ 12
            · have e2 : decide ((ys.length : Int) ≤ 12) = true := decide_eq_true (by omega)
              rw [decide_eq_true h2] at HV
              clear h1 h2
              go_wp2_with fail
              go_ret
              exact ⟨by rw [HV.out]; rfl, HBI.out⟩
            · have e2 : decide ((ys.length : Int) ≤ 12) = false := decide_eq_false (by omega)
              rw [decide_eq_false h2] at HV
              clear h1 h2
              go_wp2_with fail
              go_ret
              exact ⟨by rw [HV.out]; rfl, HBI.out⟩
          · have e1 : decide ((ps.length : Int) ≤ 8) = false := decide_eq_false (by omega)
            rw [decide_eq_false h1] at HV
            clear h1
            go_wp2_with fail
            go_ret
            exact ⟨by rw [HV.out]; simp, HBI.out⟩
end Go.Proofs.Ytmglgjchemecjaa.CObjValidS
/- The warnings for an object; plain. -/
namespace Go.Proofs.Ytmglgjchemecjaa.PWarn
set_option maxRecDepth 200000
open Go.ChangeShapes Go.WideShapes Go.ChangeAt Go.RowKit Kit CCode CFixups CSymbols PObj BObj PValid CUses CCovers CObjValid
abbrev WD := CWarnings.D
def dS : SD := ⟨ByteArray.empty, 0, 0, [], 0, []⟩
def dY : YD := (ByteArray.empty, 0, 0, 0)
def at1 (d : OD) (k : Nat) : List WD := if (d.ys.getD k dY).2.2.1 = -1 ∧ used d.ss k = false then [(1, (k : Int))] else []
def at2 (d : OD) (k : Nat) : List WD := if secSize (d.ss.getD k dS) = 0 then [(2, (k : Int))] else []
def at3 (d : OD) (k : Nat) : List WD := if coverB (d.ss.getD k dS) = true then [(3, (k : Int))] else []
def upto (f : Nat → List WD) (n : Nat) : List WD := (List.range n).flatMap f
theorem upto_succ (f : Nat → List WD) (n : Nat) : upto f (n + 1) = upto f n ++ f n := by
  unfold upto
  rw [List.range_succ, List.flatMap_append]
  simp
theorem upto_len {f : Nat → List WD} (h : ∀ k, (f k).length ≤ 1) : ∀ n, (upto f n).length ≤ n
  | 0 => by simp [upto]
  | n + 1 => by
    rw [upto_succ, List.length_append]
    have := upto_len h n
    have := h n
    omega
theorem at1_len (d : OD) (k : Nat) : (at1 d k).length ≤ 1 := by unfold at1; split <;> simp
theorem at2_len (d : OD) (k : Nat) : (at2 d k).length ≤ 1 := by unfold at2; split <;> simp
theorem at3_len (d : OD) (k : Nat) : (at3 d k).length ≤ 1 := by unfold at3; split <;> simp
def list (d : OD) : List WD := upto (at1 d) d.ys.length ++ upto (at2 d) d.ss.length ++ upto (at3 d) d.ss.length
def warns (d : OD) : List WD := bif objOk d then list d else []
theorem getS {ps : List SV} {k : Nat} (h : k < ps.length) : (ps.map SV.d).getD k dS = ps[k].d := by
  rw [List.getD_eq_getElem?_getD, List.getElem?_map, List.getElem?_eq_getElem h]
  rfl
theorem fixes_in {many : Int} {n : Nat} : ∀ {e : Int} {fs : List FD}, 0 ≤ e → fixesOk many n e fs = true → ∀ f ∈ fs, 0 ≤ f.1 ∧ f.1 + wide f.2.1 ≤ n
  | _, [], _, _, f, hf => by cases hf
  | e, g :: fs, he, h, f, hf => by
    simp only [fixesOk, Bool.and_eq_true] at h
    have hg := fixOk_iff.1 h.1
    have hw := wide_bd g.2.1
    rcases List.mem_cons.1 hf with rfl | hf
    · omega
    · exact fixes_in (by omega) h.2 f hf
theorem sec_in {many : Int} {d : SD} (h : secOk many d = true) : InB d.zs d.fs := by
  rw [secOk, Bool.and_eq_true] at h
  obtain ⟨_, h⟩ := h
  split at h
  · simp only [blankOk, Bool.and_eq_true, decide_eq_true_eq] at h
    have : d.fs = [] := List.eq_nil_of_length_eq_zero h.2
    rw [this]
    intro f hf
    cases hf
  · simp only [bodyOk, Bool.and_eq_true] at h
    exact fixes_in (Int.le_refl 0) h.2
theorem obj_facts {d : OD} (h : objOk d = true) : d.ss.length ≤ 8 ∧ d.ys.length ≤ 12 ∧ ∀ s ∈ d.ss, InB s.zs s.fs := by
  simp only [objOk, Bool.and_eq_true, decide_eq_true_eq, List.all_eq_true] at h
  exact ⟨h.1.1.1, h.1.1.2, fun s hs => sec_in (h.1.2 s hs)⟩
theorem list_len {d : OD} (h1 : d.ss.length ≤ 8) (h2 : d.ys.length ≤ 12) : (list d).length ≤ 28 := by
  unfold list
  rw [List.length_append, List.length_append]
  have := upto_len (at1_len d) d.ys.length
  have := upto_len (at2_len d) d.ss.length
  have := upto_len (at3_len d) d.ss.length
  omega
def RetW (L : List WD) (w : World) (e : Ending) (w' : World) : Prop := ∃ A c, e = .returned (.slice A L.length c) ∧ Row w' w.heap.size 31 2 A L.length c (cellsOf CWarnings.warningC L) ∧ Below w.heap.size w w'
end Go.Proofs.Ytmglgjchemecjaa.PWarn
/- The program's WarningsOf. -/
namespace Go.Proofs.Ytmglgjchemecjaa.CWarn
set_option maxRecDepth 200000
open Go.ChangeShapes Go.WideShapes Go.ChangeAt Go.RowKit Kit CCode CFixups CSymbols PObj BObj PValid CSecValid CUses CCovers CObjValid PWarn
set_option maxHeartbeats 4000000 in
theorem warningsOf_any (o : OV) (w : World) (hr : RdO w w.heap.size o) (hf : Fit o) (hcz : ∀ p ∈ o.ps, p.zs.length ≤ p.c) :
    Calls Try.prog 11 #[.agg #[.slice o.A o.ps.length o.c, .slice o.Y o.ys.length o.yc]] w (RetW (warns o.d) w) := by
  obtain ⟨i0, hi, hz0, hz1, hz2⟩ := info_parts CWarnings.info
  have HI := hide (And.intro hi (And.intro hz0 (And.intro hz1 hz2)))
  clear hi hz0 hz1 hz2
  obtain ⟨A, c, ps, Y, yc, ys⟩ := o
  have HF := hide hf
  obtain ⟨np, ny, cy, hp, hy⟩ := hf
  simp only at np ny cy hp hy hcz ⊢
  have HR := hide hr
  have HL := hide (And.intro hp (And.intro hy hcz))
  clear hr hp hy hcz
  have B0 : Below w.heap.size w ((w.alloc (.cells #[.slice A ps.length c, .slice Y ys.length yc] 26)).alloc (.cells #[] 31)) := (by repeat (first | exact Below.refl _ _ | with_reducible assumption | (refine Below.drew ?_) | (refine Below.drewN ?_ _) | (refine Below.alloc ?_ (by simp; try omega) _) | (refine Below.setCell ?_ (by simp; try omega) _)))
  have HX0 := hide ((Box.new w 26 #[.slice A ps.length c, .slice Y ys.length yc]).alloc (.cells #[] 31))
  have HB0 := hide B0
  clear B0
  go_enter Try.func11, Try.ntmps11
  go_wp2_with fail
  generalize (w.alloc (.cells #[.slice A ps.length c, .slice Y ys.length yc] 26)).alloc (.cells #[] 31) = w0 at *
  refine (objectValid_any ⟨A, c, ps, Y, yc, ys⟩ w0 ((HR.out.below HB0.out).more HB0.out.size) HF.out).mono ?_
  rintro e w1 ⟨rfl, b1⟩
  have HX := hide (HX0.out.call b1)
  have HB := hide (HB0.out.trans (b1.mono HB0.out.size))
  clear b1 HX0 HB0
  cases hok : objOk (OV.d ⟨A, c, ps, Y, yc, ys⟩)
  · have HV := hide (show warns (OV.d ⟨A, c, ps, Y, yc, ys⟩) = [] by rw [warns, hok]; rfl)
    go_wp2_with fail
    go_ret
    rw [HV.out]
    exact ⟨some ⟨w.heap.size + 1, 0, none⟩, 0, rfl, Row.empty _ _ _ _ _, HB.out⟩
  have HV := hide (show warns (OV.d ⟨A, c, ps, Y, yc, ys⟩) = list (OV.d ⟨A, c, ps, Y, yc, ys⟩) by rw [warns, hok]; rfl)
  obtain ⟨b1, b2, hin⟩ := obj_facts hok
  simp only [OV.d, List.length_map] at b1 b2
  have HIN := hide (show ∀ p ∈ ps, InB p.zs p.fs from fun p hp => hin p.d (List.mem_map_of_mem hp))
  clear hin hok
  have hx := HX.out
  have x0 := hx.cell 0
  have x1 := hx.cell 1
  simp only [List.getElem?_toArray, List.getElem?_cons_zero, List.getElem?_cons_succ] at x0 x1
  clear hx
  go_wp2_with fail
  clear x0 x1
  have hL1 : ∀ n, (upto (at1 ⟨ps.map SV.d, ys⟩) n).length ≤ n := upto_len (at1_len _)
  have hL2 : ∀ n, (upto (at2 ⟨ps.map SV.d, ys⟩) n).length ≤ n := upto_len (at2_len _)
  have hL3 : ∀ n, (upto (at3 ⟨ps.map SV.d, ys⟩) n).length ≤ n := upto_len (at3_len _)
  have HL1 := hide hL1
  have HL2 := hide hL2
  have HL3 := hide hL3
  clear hL1 hL2 hL3
  go_loopw [3, 18] (fun sl i wi => ∃ (k : Nat) (A1 : Option Addr) (c1 : Nat) (L : List WD), k ≤ ys.length ∧ i = .int .i64 k ∧ sl = .slice A1 L.length c1 ∧ L = upto (at1 ⟨ps.map SV.d, ys⟩) k ∧ Row wi w.heap.size 31 2 A1 L.length c1 (cellsOf CWarnings.warningC L) ∧ Box wi w.heap.size 26 #[.slice A ps.length c, .slice Y ys.length yc] ∧ Below w.heap.size w wi) (fun _ i _ => ys.length - (intOf i).toNat)
  case atStart => exact ⟨0, some ⟨w.heap.size + 1, 0, none⟩, 0, [], Nat.zero_le _, rfl, rfl, rfl, Row.empty _ _ _ _ _, HX.out, HB.out⟩
  case round =>
    clear HX HB
    obtain ⟨k, A1, c1, L, hk, rfl, rfl, hLe, ho, hx, hb⟩ := hrel
    have hLl : L.length ≤ 28 := by have := HL1.out k; rw [hLe]; omega
    have HLE := hide hLe
    have HO := hide ho
    have HX := hide hx
    have HB := hide hb
    have x0 := hx.cell 0
    have x1 := hx.cell 1
    simp only [List.getElem?_toArray, List.getElem?_cons_zero, List.getElem?_cons_succ] at x0 x1
    have hxl := hx.lt
    by_cases hlt : k < ys.length
    · obtain ⟨b, off, hY, hbg, hc⟩ := (HR.out.2.below hb).row symbolC_len (by decide) hlt
      have hc0 := hc 0 _ rfl
      have hc1 := hc 1 _ rfl
      have hc2 := hc 2 _ rfl
      have hc3 := hc 3 _ rfl
      simp only [Nat.add_zero] at hc0
      have HA := hide (show at1 ⟨ps.map SV.d, ys⟩ k = if ys[k].2.2.1 = -1 ∧ used (ps.map SV.d) k = false then [((1 : Int), (k : Int))] else [] by unfold at1; rw [getD_at hlt])
      have HU := hide (show upto (at1 ⟨ps.map SV.d, ys⟩) (k + 1) = L ++ at1 ⟨ps.map SV.d, ys⟩ k by rw [upto_succ, hLe])
      clear hLe ho hx hb hc
      subst hY
      generalize ys[k] = z at *
      obtain ⟨zn, zb, zw, zv⟩ := z
      simp only at hc0 hc1 hc2 hc3 HA
      by_cases h1 : zw = -1
      · have e1 : (zw == -1) = true := beq_iff_eq.2 h1
        have H1 := hide h1
        clear h1
        go_wp2_with fail
        have HX1 := hide (HX.out.alloc (.cells #[.string zn, .int .i64 zb, .int .i64 zw, .int .i64 zv] 69))
        have HB1 := hide (HB.out.alloc HB.out.size (.cells #[.string zn, .int .i64 zb, .int .i64 zw, .int .i64 zv] 69))
        have HO1 := hide (HO.out.alloc (.cells #[.string zn, .int .i64 zb, .int .i64 zw, .int .i64 zv] 69))
        clear HX HB HO hc0 hc1 hc2 hc3 x0 x1
        generalize wr.alloc (.cells #[.string zn, .int .i64 zb, .int .i64 zw, .int .i64 zv] 69) = wa at *
        refine (uses_any ⟨A, c, ps, some ⟨b, off, none⟩, yc, ys⟩ k wa ((HR.out.below HB1.out).more HB1.out.size) (Nat.le_trans np (by decide)) (fun p hp => Nat.le_trans (HL.out.1 p hp).2.2 (by decide))).mono ?_
        rintro e w2 ⟨rfl, bb⟩
        have HX := hide (HX1.out.call bb)
        have HB := hide (HB1.out.trans (bb.mono HB1.out.size))
        have HO := hide (HO1.out.call bb)
        clear bb HX1 HB1 HO1
        simp only [OV.d]
        cases hu : used (ps.map SV.d) k
        · rw [hu, if_pos ⟨H1.out, rfl⟩] at HA
          clear H1 e1 hu
          go_wp2_with (at_builtin; refine wpList_app (w2.alloc (.cells #[.int .i64 1, .int .i64 k] 31)) rfl (.tmp 32) (.tmp 35) 28 rfl 31 i0 (.agg #[.int .i64 0, .int .i64 0]) 2 16 Try.underlying28 HI.out.1 HI.out.2.1 HI.out.2.2.1 HI.out.2.2.2 rfl (by decide) w.heap.size A1 L.length c1 (cellsOf CWarnings.warningC L) rfl (HO.out.alloc _) ?hb (some ⟨w2.heap.size, 0, none⟩) 1 1 [.int .i64 1, .int .i64 k] rfl (rd_lit w2 #[.int .i64 1, .int .i64 k] 31 _ rfl) rfl (fun h => by cases h) ?o1 ?n1 ?n2 ?_)
          case hb => exact (HB.out.alloc HB.out.size _).size
          case o1 => intro u hu; simp only [List.mem_cons, List.not_mem_nil, or_false] at hu; rcases hu with rfl | rfl <;> rfl
          case n1 => unfold maxLen; omega
          case n2 => omega
          intro A3 n3 c3 w3 hn3 o3 g3 k3
          subst hn3
          have HB3 := hide (show Below w.heap.size w w3 from (HB.out.alloc HB.out.size _).grown g3 (HB.out.alloc HB.out.size _).size (fun j hj => (HO.out.lt j hj).1))
          have HX3 := hide ((HX.out.alloc (.cells #[.int .i64 1, .int .i64 k] 31)).grown g3 (fun j hj => (HO.out.alloc (.cells #[.int .i64 1, .int .i64 k] 31)).box (HX.out.alloc _) (by decide) j hj))
          have HO3 := hide (show Row w3 w.heap.size 31 2 A3 (L ++ [((1 : Int), (k : Int))]).length c3 (cellsOf CWarnings.warningC (L ++ [((1 : Int), (k : Int))])) by rw [List.length_append]; simpa [cellsOf, CWarnings.warningC] using o3)
          clear o3 g3 k3 HO HB HX
          go_wp2_with fail
          refine ⟨⟨k + 1, A3, c3, L ++ [(1, (k : Int))], by omega, by go_num, by simp, by rw [HU.out, HA.out], HO3.out, HX3.out, HB3.out⟩, by simp [intOf]; omega⟩
        · rw [hu, if_neg (fun h => by cases h.2)] at HA
          clear H1 e1 hu
          go_wp2_with fail
          refine ⟨⟨k + 1, A1, c1, L, by omega, by go_num, rfl, by rw [HU.out, HA.out, List.append_nil], HO.out, HX.out, HB.out⟩, by simp [intOf]; omega⟩
      · have e1 : (zw == -1) = false := beq_eq_false_iff_ne.2 h1
        rw [if_neg (fun h => h1 h.1)] at HA
        clear h1
        go_wp2_with fail
        refine ⟨⟨k + 1, A1, c1, L, by omega, by go_num, rfl, by rw [HU.out, HA.out, List.append_nil], HO.out.alloc _, HX.out.alloc _, HB.out.alloc HB.out.size _⟩, by simp [intOf]; omega⟩
    · have e : k = ys.length := by omega
      subst e
      clear ho hx hb
      go_wp2_with fail
      clear x0 x1
      have HP := hide HLE.out
      generalize hP : L = P at *
      have hPl : P.length ≤ 12 := by have := HL1.out ys.length; rw [hLe]; omega
      clear hLe HLE hLl hP
      go_loopw [3, 41] (fun sl i wi => ∃ (k : Nat) (A1 : Option Addr) (c1 : Nat) (L : List WD), k ≤ ps.length ∧ i = .int .i64 k ∧ sl = .slice A1 L.length c1 ∧ L = P ++ upto (at2 ⟨ps.map SV.d, ys⟩) k ∧ Row wi w.heap.size 31 2 A1 L.length c1 (cellsOf CWarnings.warningC L) ∧ Box wi w.heap.size 26 #[.slice A ps.length c, .slice Y ys.length yc] ∧ Below w.heap.size w wi) (fun _ i _ => ps.length - (intOf i).toNat)
      case atStart => exact ⟨0, A1, c1, P, Nat.zero_le _, rfl, rfl, by simp [upto], HO.out, HX.out, HB.out⟩
      case round =>
        clear HX HB HO
        obtain ⟨k, A1, c1, L, hk, rfl, rfl, hLe, ho, hx, hb⟩ := hrel
        have hLl : L.length ≤ 28 := by have := HL2.out k; rw [hLe, List.length_append]; omega
        have HLE := hide hLe
        have HO := hide ho
        have HX := hide hx
        have HB := hide hb
        have x0 := hx.cell 0
        have x1 := hx.cell 1
        simp only [List.getElem?_toArray, List.getElem?_cons_zero, List.getElem?_cons_succ] at x0 x1
        have hxl := hx.lt
        by_cases hlt : k < ps.length
        · obtain ⟨b, off, hA, hbg, hc⟩ := (HR.out.1.1.below hb).row secC_len (by decide) hlt
          have hc0 := hc 0 _ rfl
          have hc1 := hc 1 _ rfl
          have hc2 := hc 2 _ rfl
          have hc3 := hc 3 _ rfl
          have hc4 := hc 4 _ rfl
          have hc5 := hc 5 _ rfl
          simp only [Nat.add_zero] at hc0
          have HA := hide (show at2 ⟨ps.map SV.d, ys⟩ k = if secSize ps[k].d = 0 then [((2 : Int), (k : Int))] else [] by unfold at2; rw [getS hlt])
          have HU := hide (show P ++ upto (at2 ⟨ps.map SV.d, ys⟩) (k + 1) = L ++ at2 ⟨ps.map SV.d, ys⟩ k by rw [upto_succ, hLe, List.append_assoc])
          have HM := hide (HL.out.1 _ (List.getElem_mem hlt))
          have HCZ := hide (HL.out.2.2 _ (List.getElem_mem hlt))
          have HRS := hide (HR.out.1.2 _ (List.getElem_mem hlt))
          have HINP := hide (HIN.out _ (List.getElem_mem hlt))
          clear hLe ho hx hb hc
          subst hA
          generalize ps[k] = p at *
          go_wp2_with fail
          have HX1 := hide (HX.out.alloc (.cells #[.string p.nm, .int .i64 p.kd, .int .i64 p.al, .slice p.A p.zs.length p.c, .int .i64 p.sz, .slice p.F p.fs.length p.fc] 73))
          have HB1 := hide (HB.out.alloc HB.out.size (.cells #[.string p.nm, .int .i64 p.kd, .int .i64 p.al, .slice p.A p.zs.length p.c, .int .i64 p.sz, .slice p.F p.fs.length p.fc] 73))
          have HO1 := hide (HO.out.alloc (.cells #[.string p.nm, .int .i64 p.kd, .int .i64 p.al, .slice p.A p.zs.length p.c, .int .i64 p.sz, .slice p.F p.fs.length p.fc] 73))
          clear HX HB HO hc0 hc1 hc2 hc3 hc4 hc5 x0 x1
          generalize wr.alloc (.cells #[.string p.nm, .int .i64 p.kd, .int .i64 p.al, .slice p.A p.zs.length p.c, .int .i64 p.sz, .slice p.F p.fs.length p.fc] 73) = wa at *
          refine (sectionSize_any p wa (Nat.le_trans HM.out.2.1 (by decide))).mono ?_
          rintro e w2 ⟨rfl, bb⟩
          have HX := hide (HX1.out.call bb)
          have HB := hide (HB1.out.trans (bb.mono HB1.out.size))
          have HO := hide (HO1.out.call bb)
          clear bb HX1 HB1 HO1
          generalize secSize p.d = q at *
          by_cases h1 : q = 0
          · have e1 : (q == 0) = true := beq_iff_eq.2 h1
            rw [if_pos h1] at HA
            clear h1
            go_wp2_with (at_builtin; refine wpList_app (w2.alloc (.cells #[.int .i64 2, .int .i64 k] 31)) rfl (.tmp 49) (.tmp 52) 28 rfl 31 i0 (.agg #[.int .i64 0, .int .i64 0]) 2 16 Try.underlying28 HI.out.1 HI.out.2.1 HI.out.2.2.1 HI.out.2.2.2 rfl (by decide) w.heap.size A1 L.length c1 (cellsOf CWarnings.warningC L) rfl (HO.out.alloc _) ?hb (some ⟨w2.heap.size, 0, none⟩) 1 1 [.int .i64 2, .int .i64 k] rfl (rd_lit w2 #[.int .i64 2, .int .i64 k] 31 _ rfl) rfl (fun h => by cases h) ?o1 ?n1 ?n2 ?_)
            case hb => exact (HB.out.alloc HB.out.size _).size
            case o1 => intro u hu; simp only [List.mem_cons, List.not_mem_nil, or_false] at hu; rcases hu with rfl | rfl <;> rfl
            case n1 => unfold maxLen; omega
            case n2 => omega
            intro A3 n3 c3 w3 hn3 o3 g3 k3
            subst hn3
            have HB3 := hide (show Below w.heap.size w w3 from (HB.out.alloc HB.out.size _).grown g3 (HB.out.alloc HB.out.size _).size (fun j hj => (HO.out.lt j hj).1))
            have HX3 := hide ((HX.out.alloc (.cells #[.int .i64 2, .int .i64 k] 31)).grown g3 (fun j hj => (HO.out.alloc (.cells #[.int .i64 2, .int .i64 k] 31)).box (HX.out.alloc _) (by decide) j hj))
            have HO3 := hide (show Row w3 w.heap.size 31 2 A3 (L ++ [((2 : Int), (k : Int))]).length c3 (cellsOf CWarnings.warningC (L ++ [((2 : Int), (k : Int))])) by rw [List.length_append]; simpa [cellsOf, CWarnings.warningC] using o3)
            clear o3 g3 k3 HO HB HX
            go_wp2_with fail
            refine ⟨⟨k + 1, A3, c3, L ++ [(2, (k : Int))], by omega, by go_num, by simp, by rw [HU.out, HA.out], HO3.out, HX3.out, HB3.out⟩, by simp [intOf]; omega⟩
          · have e1 : (q == 0) = false := beq_eq_false_iff_ne.2 h1
            rw [if_neg h1] at HA
            clear h1
            go_wp2_with fail
            refine ⟨⟨k + 1, A1, c1, L, by omega, by go_num, rfl, by rw [HU.out, HA.out, List.append_nil], HO.out, HX.out, HB.out⟩, by simp [intOf]; omega⟩
        · have e : k = ps.length := by omega
          subst e
          clear ho hx hb
          go_wp2_with fail
          clear x0 x1
          have HP2 := hide (show L = upto (at1 ⟨ps.map SV.d, ys⟩) ys.length ++ upto (at2 ⟨ps.map SV.d, ys⟩) ps.length by rw [HLE.out, HP.out])
          have hPl2 : L.length ≤ 20 := by have := HL2.out ps.length; rw [HLE.out, List.length_append]; omega
          clear HLE hLl HP hPl hLe
          generalize hP : L = P2 at *
          clear hP
          go_loopw [3, 58] (fun sl i wi => ∃ (k : Nat) (A1 : Option Addr) (c1 : Nat) (L : List WD), k ≤ ps.length ∧ i = .int .i64 k ∧ sl = .slice A1 L.length c1 ∧ L = P2 ++ upto (at3 ⟨ps.map SV.d, ys⟩) k ∧ Row wi w.heap.size 31 2 A1 L.length c1 (cellsOf CWarnings.warningC L) ∧ Box wi w.heap.size 26 #[.slice A ps.length c, .slice Y ys.length yc] ∧ Below w.heap.size w wi) (fun _ i _ => ps.length - (intOf i).toNat)
          case atStart => exact ⟨0, A1, c1, P2, Nat.zero_le _, rfl, rfl, by simp [upto], HO.out, HX.out, HB.out⟩
          case round =>
            clear HX HB HO
            obtain ⟨k, A1, c1, L, hk, rfl, rfl, hLe, ho, hx, hb⟩ := hrel
            have hLl : L.length ≤ 28 := by have := HL3.out k; rw [hLe, List.length_append]; omega
            have HLE := hide hLe
            have HO := hide ho
            have HX := hide hx
            have HB := hide hb
            have x0 := hx.cell 0
            have x1 := hx.cell 1
            simp only [List.getElem?_toArray, List.getElem?_cons_zero, List.getElem?_cons_succ] at x0 x1
            have hxl := hx.lt
            by_cases hlt : k < ps.length
            · obtain ⟨b, off, hA, hbg, hc⟩ := (HR.out.1.1.below hb).row secC_len (by decide) hlt
              have hc0 := hc 0 _ rfl
              have hc1 := hc 1 _ rfl
              have hc2 := hc 2 _ rfl
              have hc3 := hc 3 _ rfl
              have hc4 := hc 4 _ rfl
              have hc5 := hc 5 _ rfl
              simp only [Nat.add_zero] at hc0
              have HA := hide (show at3 ⟨ps.map SV.d, ys⟩ k = if coverB ps[k].d = true then [((3 : Int), (k : Int))] else [] by unfold at3; rw [getS hlt])
              have HU := hide (show P2 ++ upto (at3 ⟨ps.map SV.d, ys⟩) (k + 1) = L ++ at3 ⟨ps.map SV.d, ys⟩ k by rw [upto_succ, hLe, List.append_assoc])
              have HM := hide (HL.out.1 _ (List.getElem_mem hlt))
              have HCZ := hide (HL.out.2.2 _ (List.getElem_mem hlt))
              have HRS := hide (HR.out.1.2 _ (List.getElem_mem hlt))
              have HINP := hide (HIN.out _ (List.getElem_mem hlt))
              clear hLe ho hx hb hc
              subst hA
              generalize ps[k] = p at *
              go_wp2_with fail
              have HX1 := hide (HX.out.alloc (.cells #[.string p.nm, .int .i64 p.kd, .int .i64 p.al, .slice p.A p.zs.length p.c, .int .i64 p.sz, .slice p.F p.fs.length p.fc] 73))
              have HB1 := hide (HB.out.alloc HB.out.size (.cells #[.string p.nm, .int .i64 p.kd, .int .i64 p.al, .slice p.A p.zs.length p.c, .int .i64 p.sz, .slice p.F p.fs.length p.fc] 73))
              have HO1 := hide (HO.out.alloc (.cells #[.string p.nm, .int .i64 p.kd, .int .i64 p.al, .slice p.A p.zs.length p.c, .int .i64 p.sz, .slice p.F p.fs.length p.fc] 73))
              clear HX HB HO hc0 hc1 hc2 hc3 hc4 hc5 x0 x1
              generalize wr.alloc (.cells #[.string p.nm, .int .i64 p.kd, .int .i64 p.al, .slice p.A p.zs.length p.c, .int .i64 p.sz, .slice p.F p.fs.length p.fc] 73) = wa at *
              refine (covers_any p wa ((HRS.out.below HB1.out).more HB1.out.size) HM.out.2.1 HM.out.2.2 HCZ.out HINP.out).mono ?_
              rintro e w2 ⟨rfl, bb⟩
              have HX := hide (HX1.out.call bb)
              have HB := hide (HB1.out.trans (bb.mono HB1.out.size))
              have HO := hide (HO1.out.call bb)
              clear bb HX1 HB1 HO1
              cases h1 : coverB p.d
              · rw [h1, if_neg (by decide)] at HA
                clear h1
                go_wp2_with fail
                refine ⟨⟨k + 1, A1, c1, L, by omega, by go_num, rfl, by rw [HU.out, HA.out, List.append_nil], HO.out, HX.out, HB.out⟩, by simp [intOf]; omega⟩
              · rw [h1, if_pos rfl] at HA
                clear h1
                go_wp2_with (at_builtin; refine wpList_app (w2.alloc (.cells #[.int .i64 3, .int .i64 k] 31)) rfl (.tmp 65) (.tmp 68) 28 rfl 31 i0 (.agg #[.int .i64 0, .int .i64 0]) 2 16 Try.underlying28 HI.out.1 HI.out.2.1 HI.out.2.2.1 HI.out.2.2.2 rfl (by decide) w.heap.size A1 L.length c1 (cellsOf CWarnings.warningC L) rfl (HO.out.alloc _) ?hb (some ⟨w2.heap.size, 0, none⟩) 1 1 [.int .i64 3, .int .i64 k] rfl (rd_lit w2 #[.int .i64 3, .int .i64 k] 31 _ rfl) rfl (fun h => by cases h) ?o1 ?n1 ?n2 ?_)
                case hb => exact (HB.out.alloc HB.out.size _).size
                case o1 => intro u hu; simp only [List.mem_cons, List.not_mem_nil, or_false] at hu; rcases hu with rfl | rfl <;> rfl
                case n1 => unfold maxLen; omega
                case n2 => omega
                intro A3 n3 c3 w3 hn3 o3 g3 k3
                subst hn3
                have HB3 := hide (show Below w.heap.size w w3 from (HB.out.alloc HB.out.size _).grown g3 (HB.out.alloc HB.out.size _).size (fun j hj => (HO.out.lt j hj).1))
                have HX3 := hide ((HX.out.alloc (.cells #[.int .i64 3, .int .i64 k] 31)).grown g3 (fun j hj => (HO.out.alloc (.cells #[.int .i64 3, .int .i64 k] 31)).box (HX.out.alloc _) (by decide) j hj))
                have HO3 := hide (show Row w3 w.heap.size 31 2 A3 (L ++ [((3 : Int), (k : Int))]).length c3 (cellsOf CWarnings.warningC (L ++ [((3 : Int), (k : Int))])) by rw [List.length_append]; simpa [cellsOf, CWarnings.warningC] using o3)
                clear o3 g3 k3 HO HB HX
                go_wp2_with fail
                refine ⟨⟨k + 1, A3, c3, L ++ [(3, (k : Int))], by omega, by go_num, by simp, by rw [HU.out, HA.out], HO3.out, HX3.out, HB3.out⟩, by simp [intOf]; omega⟩
            · have e : k = ps.length := by omega
              subst e
              clear ho hx hb
              go_wp2_with fail
              clear x0 x1
              have HV2 := hide (show L = warns (OV.d ⟨A, c, ps, Y, yc, ys⟩) by rw [HLE.out, HP2.out]; refine Eq.trans ?_ HV.out.symm; simp [list, OV.d])
              go_ret
              exact ⟨A1, c1, by rw [← HV2.out]; rfl, by rw [← HV2.out]; exact HO.out, HB.out⟩

end Go.Proofs.Ytmglgjchemecjaa.CWarn
