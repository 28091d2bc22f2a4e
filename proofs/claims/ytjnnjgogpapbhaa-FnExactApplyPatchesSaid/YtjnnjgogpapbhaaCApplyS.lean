/- The reference's ApplyPatches. -/
import Derived.Test.YtjnnjgogpapbhaaBApply
import Derived.Deep.CutRange
namespace Go.Proofs.Ytjnnjgogpapbhaa.CApplyS
set_option maxRecDepth 200000
open Go.ChangeShapes Go.WideShapes Go.ChangeAt Go.RowKit Kit CCode CImage CPatch PPatch BPatch CPatches CPatValid BApply CPatches2
theorem cell_below {w w' : World} {B : Nat} {p : Addr} {u : Value} (hb : Below B w w') (hp : p.block < B) (h : w.cell? p = some u) : w'.cell? p = some u := (hb.cell hp).trans h
theorem rd_same (w0 : World) (X : Nat) (t : TypeId) (cs : Array Value) (h : Box w0 X t cs) : X < w0.heap.size := h.lt
theorem applyPatchesS_any (b : Int) (A : Option Addr) (zs : List Int) (c : Nat) (AL : Option Addr) (ps : List PV) (cl : Nat) (w : World)
    (hr : Rd w w.heap.size A (ints .u8 zs)) (hzm : zs.length ≤ 1048576) (hnil : A = none → c = 0)
    (hl : RdPs w w.heap.size AL ps) (hm : ps.length ≤ 1048576) (hll : ∀ p ∈ ps, p.zs.length ≤ 1048576) (hln : ∀ p ∈ ps, p.A = none → p.c = 0) :
    Calls Try.prog 13 #[.agg #[.int .i64 b, .slice A zs.length c], .slice AL ps.length cl] w
      (RetImg (outB (imOk b zs.length (ps.map PV.d)) b) (outZ (imOk b zs.length (ps.map PV.d)) (apply b zs (ps.map PV.d))) (imOk b zs.length (ps.map PV.d)) w) := by
  generalize hds : ps.map PV.d = ds
  obtain ⟨i0, hi, hz0, hz1, hz2⟩ := info_parts CBytes8.info8
  have HI := hide (And.intro hi (And.intro hz0 (And.intro hz1 hz2)))
  clear hi hz0 hz1 hz2
  have X0 := (Box.new w 35 #[.int .i64 b, .slice A zs.length c]).alloc (.cells #[.int .i64 0, .slice none 0 0] 35)
  have X1 := Box.new (w.alloc (.cells #[.int .i64 b, .slice A zs.length c] 35)) 35 #[.int .i64 0, .slice none 0 0]
  have B0 : Below w.heap.size w ((w.alloc (.cells #[.int .i64 b, .slice A zs.length c] 35)).alloc (.cells #[.int .i64 0, .slice none 0 0] 35)) := (by repeat (first | exact Below.refl _ _ | with_reducible assumption | (refine Below.drew ?_) | (refine Below.drewN ?_ _) | (refine Below.alloc ?_ (by simp; try omega) _) | (refine Below.setCell ?_ (by simp; try omega) _)))
  simp only [World.size_alloc] at X1
  have HR := hide ((hr.below B0).more B0.size)
  have HL := hide hl
  have HB := hide B0
  have HX := hide (And.intro X0 X1)
  clear hr hl B0 X0 X1
  go_enter Try.func13, Try.ntmps13
  go_wp2_with fail
  generalize ((w.alloc (.cells #[.int .i64 b, .slice A zs.length c] 35)).alloc (.cells #[.int .i64 0, .slice none 0 0] 35)) = w0 at *
  refine (l1OwnImage_any b A zs c w0 HR.out hzm hnil).mono ?_
  rintro e w1 ⟨A1, c1, rfl, r1, b1⟩
  have HX1 := hide (And.intro (HX.out.1.call b1) (HX.out.2.call b1))
  have hne : w.heap.size ≠ w.heap.size + 1 := by omega
  have x0 := HX1.out.1.cell 0
  have x1 := HX1.out.1.cell 1
  have xf0 := HX1.out.1.frozen 0
  have xf1 := HX1.out.1.frozen 1
  simp only [List.getElem?_toArray, List.getElem?_cons_zero, List.getElem?_cons_succ] at x0 x1
  have HB2 := hide (put2_below (HB.out.trans (b1.mono HB.out.size)) (Nat.le_refl _) (.int .i64 b) (.slice A1 zs.length c1))
  have HX2 := hide (And.intro (put2_box HX1.out.1 (.int .i64 b) (.slice A1 zs.length c1)) ((HX1.out.2.far (p := ⟨w.heap.size, 0, none⟩) (Ne.symm hne) (.int .i64 b)).far (p := ⟨w.heap.size, 1, none⟩) (Ne.symm hne) (.slice A1 zs.length c1)))
  have HR2 := hide (put2_row r1 HX1.out.1 (by decide) (.int .i64 b) (.slice A1 zs.length c1))
  clear r1 b1 HX HR HX1 hnil hne
  go_wp2_with fail
  clear x0 x1 xf0 xf1
  generalize ((w1.setCell ⟨w.heap.size, 0, none⟩ (.int .i64 b)).setCell ⟨w.heap.size, 1, none⟩ (.slice A1 zs.length c1)) = w2 at *
  refine (l1OwnPatchList_any AL ps cl w2 ((HL.out.below HB2.out).more HB2.out.size) hm hll hln).mono ?_
  rintro e w3 ⟨A2, c2, qs, rfl, hqd, o3, b3⟩
  rw [hds] at hqd
  have HX3 := hide (And.intro (HX2.out.1.call b3) (HX2.out.2.call b3))
  have HR3 := hide (HR2.out.call b3)
  have HB3 := hide (HB2.out.trans (b3.mono HB2.out.size))
  have HO3 := hide o3
  have HQ := hide hqd
  have hql : qs.length ≤ 1048576 := by
    have := congrArg List.length (hqd.trans hds.symm)
    simp only [List.length_map] at this
    omega
  have hqm : ∀ q ∈ qs, q.zs.length ≤ 1048576 := by
    intro q hq
    have h1 : q.d ∈ ps.map PV.d := by rw [hds, ← hqd]; exact List.mem_map_of_mem hq
    obtain ⟨p, hp, e⟩ := List.mem_map.1 h1
    have h2 : p.zs = q.zs := congrArg Prod.snd e
    rw [← h2]
    exact hll p hp
  have HOK := hide (show spOk b zs.length (qs.map PV.d) = imOk b zs.length ds from by
    rw [hqd, ← hds]
    refine spOk_eq fun d hd => ?_
    obtain ⟨p, hp, rfl⟩ := List.mem_map.1 hd
    have := hll p hp
    simp only [PV.d]
    omega)
  have x0 := HX3.out.1.cell 0
  have x1 := HX3.out.1.cell 1
  simp only [List.getElem?_toArray, List.getElem?_cons_zero, List.getElem?_cons_succ] at x0 x1
  clear hds
  clear o3 b3 HX2 HR2 HB2 hqd hll hln HL HB
  go_wp2_with fail
  refine (patchesValidS_any b A1 zs.length c1 A2 qs c2 w3 hzm HO3.out.rd.1 hql hqm).mono ?_
  rintro e w4 ⟨rfl, b4⟩
  rw [HOK.out]
  have HX4 := hide (And.intro (HX3.out.1.call b4) (HX3.out.2.call b4))
  have HR4 := hide (HR3.out.call b4)
  have HB4 := hide (HB3.out.trans (b4.mono HB3.out.size))
  have HO4 := hide (HO3.out.call b4)
  clear HX3 HR3 HB3 HO3 b4 HOK x0 x1
  have x0 := HX4.out.1.cell 0
  have x1 := HX4.out.1.cell 1
  have y0 := HX4.out.2.cell 0
  have y1 := HX4.out.2.cell 1
  have yf0 := HX4.out.2.frozen 0
  have yf1 := HX4.out.2.frozen 1
  simp only [List.getElem?_toArray, List.getElem?_cons_zero, List.getElem?_cons_succ] at x0 x1 y0 y1
  cases hok : imOk b zs.length ds
  · have HOKF := hide hok
    clear hok
    have k := put2_box HX4.out.2 (.int .i64 0) (.slice none 0 0)
    have k0 := k.cell 0
    have k1 := k.cell 1
    simp only [List.getElem?_toArray, List.getElem?_cons_zero, List.getElem?_cons_succ] at k0 k1
    clear k
    have HF := hide (put2_below HB4.out (Nat.le_succ _) (.int .i64 0) (.slice none 0 0))
    go_wp2_with fail
    exact bodyPost_ret (v := .tuple #[.agg #[.int .i64 0, .slice none 0 0], .bool false]) (by simp [results, Try.results13, go_sem, k0, k1]) rfl (by rw [HOKF.out]; exact (show RetImg 0 [] false w _ _ from ⟨none, 0, rfl, Row.empty _ _ _ _ _, HF.out⟩))
  · obtain ⟨hbd, hP⟩ : (0 ≤ b ∧ b ≤ 4096 ∧ zs.length ≤ 2000) ∧ okP (b + zs.length) b ds = true := by
      simp only [imOk, Bool.and_eq_true] at hok
      exact ⟨imgOk_bounds hok.1.1, hok.2⟩
    have HOKF := hide hok
    clear hok
    have Z0 : w4.cell? ⟨w.heap.size, 0, none⟩ = some (.int .i64 b) ∧ w4.cell? ⟨w.heap.size, 1, none⟩ = some (.slice A1 zs.length c1) := ⟨x0, x1⟩
    have l4 : w.heap.size < w4.heap.size := HX4.out.1.lt
    have HN := hide (show (ints .u8 zs).length = zs.length * 1 ∧ 0 + zs.length ≤ maxLen ∧ (0 + zs.length) * 1 ≤ 140737488355328 from ⟨by simp, by unfold maxLen; omega, by omega⟩)
    have HY0 := hide (And.intro yf0 yf1)
    clear x0 x1 y0 y1 yf0 yf1
    go_upto_region 5 with (fail)
    go_cut [6] from 18 to 24 (fun y wx => ∃ Y A3 c3, y = .pointer (some ⟨Y, 0, none⟩) ∧ Inv w4 w4.heap.size Y b A3 zs.length c3 zs wx)
    case first =>
      refine Reg.startT (fun W => W.cell? ⟨w.heap.size, 0, none⟩ = some (.int .i64 b) ∧ W.cell? ⟨w.heap.size, 1, none⟩ = some (.slice A1 zs.length c1)) (fun j => j == 8) (by kernel_rfl) ?_
      have hHeld : w4.drew.cell? ⟨w.heap.size, 0, none⟩ = some (.int .i64 b) ∧ w4.drew.cell? ⟨w.heap.size, 1, none⟩ = some (.slice A1 zs.length c1) := Z0
      refine Reg.takeT (i := 0) (v := ?_) rfl (by kernel_rfl) (by kernel_rfl) (by kernel_rfl) (by kernel_rfl) (fun _ _ _ h => h) (Or.inl ⟨by rfl, ?_⟩) (by assumption) ?_
      rotate_left 1
      focus (intro w hSw; (try dsimp only at hSw); go_simp; (try with_reducible rfl))
      try simp only [List.getElem_toArray, List.getElem_cons_succ, List.getElem_cons_zero, Act.put, List.setIfInBounds_toArray, List.set_cons_zero, List.set_cons_succ]
      refine Reg.takeT (i := 1) (v := ?_) rfl (by kernel_rfl) (by kernel_rfl) (by kernel_rfl) (by kernel_rfl) (fun _ _ _ h => h) (Or.inl ⟨by rfl, ?_⟩) (by assumption) ?_
      rotate_left 1
      focus (intro w hSw; (try dsimp only at hSw); go_simp; (try with_reducible rfl))
      try simp only [List.getElem_toArray, List.getElem_cons_succ, List.getElem_cons_zero, Act.put, List.setIfInBounds_toArray, List.set_cons_zero, List.set_cons_succ]
      refine Reg.takeT (i := 3) (v := ?_) rfl (by kernel_rfl) (by kernel_rfl) (by kernel_rfl) (by kernel_rfl) (fun _ _ _ h => h) (Or.inl ⟨by rfl, ?_⟩) (by assumption) ?_
      rotate_left 1
      focus (intro w hSw; (try dsimp only at hSw); go_simp; (try with_reducible rfl))
      try simp only [List.getElem_toArray, List.getElem_cons_succ, List.getElem_cons_zero, Act.put, List.setIfInBounds_toArray, List.set_cons_zero, List.set_cons_succ]
      refine Reg.takeT (i := 4) (v := ?_) rfl (by kernel_rfl) (by kernel_rfl) (by kernel_rfl) (by kernel_rfl) (fun _ _ _ h => h) (Or.inl ⟨by rfl, ?_⟩) (by assumption) ?_
      rotate_left 1
      focus (intro w hSw; (try dsimp only at hSw); go_simp; (try with_reducible rfl))
      try simp only [List.getElem_toArray, List.getElem_cons_succ, List.getElem_cons_zero, Act.put, List.setIfInBounds_toArray, List.set_cons_zero, List.set_cons_succ]
      clear hHeld
      refine Reg.twoT (i := 2) (j := 7) rfl rfl (by kernel_rfl) (fun K hK => ?_) (fun K hK => ?_)
      · go_simp
        refine hK.out _ _ (show _ ∧ _ from two_below (w := w4) (by (repeat (first | with_reducible assumption | with_reducible exact Below.refl _ _ | with_reducible apply below_al | with_reducible apply below_dr | with_reducible apply below_dn)); done) l4 Z0) ?_
        clear hK K
        try simp only [List.getElem_toArray, List.getElem_cons_succ, List.getElem_cons_zero, Act.put, List.setIfInBounds_toArray, List.set_cons_zero, List.set_cons_succ]
        refine Reg.twoT (i := 5) (j := 7) rfl rfl (by kernel_rfl) (fun K hK => ?_) (fun K hK => ?_)
        · refine step_app (by rfl) _ _ 22 (by rfl) 5 i0 (.int .u8 0) 1 1 Try.underlying22 HI.out.1 HI.out.2.1 HI.out.2.2.1 HI.out.2.2.2 rfl (by decide) w4.heap.size _ 0 0 [] (by rfl) (Row.empty _ _ _ _ _) (Below.size (B := w4.heap.size) (w := w4) (by (repeat (first | with_reducible assumption | with_reducible exact Below.refl _ _ | with_reducible apply below_al | with_reducible apply below_dr | with_reducible apply below_dn)); done)) A1 zs.length c1 (ints .u8 zs) (by rfl) (Rd.below HR4.out.rd (by (repeat (first | with_reducible assumption | with_reducible exact Below.refl _ _ | with_reducible apply below_al | with_reducible apply below_dr | with_reducible apply below_dn)); done)) HN.out.1 HR4.out.nil oneI HN.out.2.1 HN.out.2.2 ?_
          intro A3 n3 c3 w5 hn3 o3 g3 k3
          have b5 : Below w4.heap.size w4 w5 := below_tr (by (repeat (first | with_reducible assumption | with_reducible exact Below.refl _ _ | with_reducible apply below_al | with_reducible apply below_dr | with_reducible apply below_dn)); done) g3
          have hn3' : n3 = zs.length := by omega
          clear hn3
          subst hn3'
          have HR5 := hide (show Row w5 w4.heap.size 5 1 A3 zs.length c3 (ints .u8 zs) ∧ Below w4.heap.size w4 w5 from ⟨by simpa using o3, b5⟩)
          refine hK.out _ _ (show _ ∧ _ from two_below b5 l4 Z0) ?_
          have hHeld := two_below b5 l4 Z0
          clear hK K g3 k3 o3
          try simp only [List.getElem_toArray, List.getElem_cons_succ, List.getElem_cons_zero, Act.put, List.setIfInBounds_toArray, List.set_cons_zero, List.set_cons_succ]
          refine Reg.takeT (i := 6) (v := ?_) rfl (by kernel_rfl) (by kernel_rfl) (by kernel_rfl) (by kernel_rfl) (fun _ _ _ h => h) (Or.inl ⟨by rfl, ?_⟩) (by assumption) ?_
          rotate_left 1
          focus (intro w hSw; (try dsimp only at hSw); go_simp; (try with_reducible rfl))
          try simp only [List.getElem_toArray, List.getElem_cons_succ, List.getElem_cons_zero, Act.put, List.setIfInBounds_toArray, List.set_cons_zero, List.set_cons_succ]
          refine Reg.oneT (i := 7) rfl (by kernel_rfl) (fun K hK => ?_)
          go_simp
          refine hK.out _ _ (show _ ∧ _ from two_below (w := w4) (by (repeat (first | with_reducible assumption | with_reducible exact Below.refl _ _ | with_reducible apply below_al | with_reducible apply below_dr | with_reducible apply below_dn)); done) l4 Z0) ?_
          clear hK K
          try simp only [List.getElem_toArray, List.getElem_cons_succ, List.getElem_cons_zero, Act.put, List.setIfInBounds_toArray, List.set_cons_zero, List.set_cons_succ]
          refine Reg.lastT (i := 8) rfl (by kernel_rfl) (by rfl) (fun K hK => ?_)
          go_simp
          refine hK.out _ _ ?_
          clear hK K hHeld
          try simp only [List.getElem_toArray, List.getElem_cons_succ, List.getElem_cons_zero, Act.put, List.setIfInBounds_toArray, List.set_cons_zero, List.set_cons_succ]
          refine Reg.doneT (by kernel_rfl) ?_ _
          go_wp2_with fail
          go_meet
          exact ⟨_, A3, c3, rfl, by have hz := HR5.out.2.size; first | exact ⟨Box.new w5 35 #[.int .i64 b, .slice A3 zs.length c3], hz, rfl, HR5.out.1.alloc _, HR5.out.2.alloc hz _⟩ | trace_state; have k := put2_box (Box.new w5 35 #[.int .i64 0, .slice none 0 0]) (.int .i64 b) (.slice A3 zs.length c3); exact ⟨k, hz, rfl, put2_row (HR5.out.1.alloc _) (Box.new w5 35 #[.int .i64 0, .slice none 0 0]) (by decide) _ _, put2_below (HR5.out.2.alloc hz _) hz _ _⟩⟩
        · go_simp
          refine hK.out _ _ (show _ ∧ _ from two_below (w := w4) (by (repeat (first | with_reducible assumption | with_reducible exact Below.refl _ _ | with_reducible apply below_al | with_reducible apply below_dr | with_reducible apply below_dn)); done) l4 Z0) ?_
          clear hK K
          try simp only [List.getElem_toArray, List.getElem_cons_succ, List.getElem_cons_zero, Act.put, List.setIfInBounds_toArray, List.set_cons_zero, List.set_cons_succ]
          refine Reg.oneT (i := 5) rfl (by kernel_rfl) (fun K hK => ?_)
          refine step_app (by rfl) _ _ 22 (by rfl) 5 i0 (.int .u8 0) 1 1 Try.underlying22 HI.out.1 HI.out.2.1 HI.out.2.2.1 HI.out.2.2.2 rfl (by decide) w4.heap.size _ 0 0 [] (by rfl) (Row.empty _ _ _ _ _) (Below.size (B := w4.heap.size) (w := w4) (by (repeat (first | with_reducible assumption | with_reducible exact Below.refl _ _ | with_reducible apply below_al | with_reducible apply below_dr | with_reducible apply below_dn)); done)) A1 zs.length c1 (ints .u8 zs) (by rfl) (Rd.below HR4.out.rd (by (repeat (first | with_reducible assumption | with_reducible exact Below.refl _ _ | with_reducible apply below_al | with_reducible apply below_dr | with_reducible apply below_dn)); done)) HN.out.1 HR4.out.nil oneI HN.out.2.1 HN.out.2.2 ?_
          intro A3 n3 c3 w5 hn3 o3 g3 k3
          have b5 : Below w4.heap.size w4 w5 := below_tr (by (repeat (first | with_reducible assumption | with_reducible exact Below.refl _ _ | with_reducible apply below_al | with_reducible apply below_dr | with_reducible apply below_dn)); done) g3
          have hn3' : n3 = zs.length := by omega
          clear hn3
          subst hn3'
          have HR5 := hide (show Row w5 w4.heap.size 5 1 A3 zs.length c3 (ints .u8 zs) ∧ Below w4.heap.size w4 w5 from ⟨by simpa using o3, b5⟩)
          have V : Box w5 (w4.heap.size + 1) 35 #[.int .i64 0, .slice none 0 0] := by simpa using (Box.new _ 35 #[.int .i64 0, .slice none 0 0]).drew.call (below_tr (Below.refl _ _) g3)
          have v0 := V.cell 0
          have v1 := V.cell 1
          have vf0 := V.frozen 0
          have vf1 := V.frozen 1
          simp only [List.getElem?_toArray, List.getElem?_cons_zero, List.getElem?_cons_succ] at v0 v1
          have HV := hide V
          clear V
          refine hK.out _ _ (show _ ∧ _ from two_below b5 l4 Z0) ?_
          have hHeld := two_below b5 l4 Z0
          clear hK K g3 k3 o3
          try simp only [List.getElem_toArray, List.getElem_cons_succ, List.getElem_cons_zero, Act.put, List.setIfInBounds_toArray, List.set_cons_zero, List.set_cons_succ]
          refine Reg.takeT (i := 6) (v := ?_) rfl (by kernel_rfl) (by kernel_rfl) (by kernel_rfl) (by kernel_rfl) (fun _ _ _ h => h) (Or.inl ⟨by rfl, ?_⟩) (by assumption) ?_
          rotate_left 1
          focus (intro w hSw; (try dsimp only at hSw); go_simp; (try with_reducible rfl))
          try simp only [List.getElem_toArray, List.getElem_cons_succ, List.getElem_cons_zero, Act.put, List.setIfInBounds_toArray, List.set_cons_zero, List.set_cons_succ]
          refine Reg.lastT (i := 8) rfl (by kernel_rfl) (by rfl) (fun K hK => ?_)
          go_simp
          refine hK.out _ _ ?_
          clear hK K hHeld
          try simp only [List.getElem_toArray, List.getElem_cons_succ, List.getElem_cons_zero, Act.put, List.setIfInBounds_toArray, List.set_cons_zero, List.set_cons_succ]
          refine Reg.doneT (by kernel_rfl) ?_ _
          go_wp2_with fail
          go_meet
          exact ⟨_, A3, c3, rfl, by have hz := HR5.out.2.size; exact ⟨put2_box HV.out (.int .i64 b) (.slice A3 zs.length c3), by first | exact Nat.le_refl _ | (simp) | (simp; omega), rfl, put2_row HR5.out.1 HV.out (by decide) _ _, put2_below HR5.out.2 (by first | exact Nat.le_refl _ | (simp) | (simp; omega)) _ _⟩⟩
      · go_simp
        refine hK.out _ _ (show _ ∧ _ from two_below (w := w4) (by (repeat (first | with_reducible assumption | with_reducible exact Below.refl _ _ | with_reducible apply below_al | with_reducible apply below_dr | with_reducible apply below_dn)); done) l4 Z0) ?_
        clear hK K
        try simp only [List.getElem_toArray, List.getElem_cons_succ, List.getElem_cons_zero, Act.put, List.setIfInBounds_toArray, List.set_cons_zero, List.set_cons_succ]
        refine Reg.oneT (i := 2) rfl (by kernel_rfl) (fun K hK => ?_)
        go_simp
        refine hK.out _ _ (show _ ∧ _ from two_below (w := w4) (by (repeat (first | with_reducible assumption | with_reducible exact Below.refl _ _ | with_reducible apply below_al | with_reducible apply below_dr | with_reducible apply below_dn)); done) l4 Z0) ?_
        clear hK K
        try simp only [List.getElem_toArray, List.getElem_cons_succ, List.getElem_cons_zero, Act.put, List.setIfInBounds_toArray, List.set_cons_zero, List.set_cons_succ]
        refine Reg.oneT (i := 5) rfl (by kernel_rfl) (fun K hK => ?_)
        refine step_app (by rfl) _ _ 22 (by rfl) 5 i0 (.int .u8 0) 1 1 Try.underlying22 HI.out.1 HI.out.2.1 HI.out.2.2.1 HI.out.2.2.2 rfl (by decide) w4.heap.size _ 0 0 [] (by rfl) (Row.empty _ _ _ _ _) (Below.size (B := w4.heap.size) (w := w4) (by (repeat (first | with_reducible assumption | with_reducible exact Below.refl _ _ | with_reducible apply below_al | with_reducible apply below_dr | with_reducible apply below_dn)); done)) A1 zs.length c1 (ints .u8 zs) (by rfl) (Rd.below HR4.out.rd (by (repeat (first | with_reducible assumption | with_reducible exact Below.refl _ _ | with_reducible apply below_al | with_reducible apply below_dr | with_reducible apply below_dn)); done)) HN.out.1 HR4.out.nil oneI HN.out.2.1 HN.out.2.2 ?_
        intro A3 n3 c3 w5 hn3 o3 g3 k3
        have b5 : Below w4.heap.size w4 w5 := below_tr (by (repeat (first | with_reducible assumption | with_reducible exact Below.refl _ _ | with_reducible apply below_al | with_reducible apply below_dr | with_reducible apply below_dn)); done) g3
        have hn3' : n3 = zs.length := by omega
        clear hn3
        subst hn3'
        have HR5 := hide (show Row w5 w4.heap.size 5 1 A3 zs.length c3 (ints .u8 zs) ∧ Below w4.heap.size w4 w5 from ⟨by simpa using o3, b5⟩)
        have V : Box w5 (w4.heap.size) 35 #[.int .i64 0, .slice none 0 0] := by simpa using ((Box.new _ 35 #[.int .i64 0, .slice none 0 0]).alloc (.cells #[] 5)).drew.call (below_tr (Below.refl _ _) g3)
        have v0 := V.cell 0
        have v1 := V.cell 1
        have vf0 := V.frozen 0
        have vf1 := V.frozen 1
        simp only [List.getElem?_toArray, List.getElem?_cons_zero, List.getElem?_cons_succ] at v0 v1
        have HV := hide V
        clear V
        refine hK.out _ _ (show _ ∧ _ from two_below b5 l4 Z0) ?_
        have hHeld := two_below b5 l4 Z0
        clear hK K g3 k3 o3
        try simp only [List.getElem_toArray, List.getElem_cons_succ, List.getElem_cons_zero, Act.put, List.setIfInBounds_toArray, List.set_cons_zero, List.set_cons_succ]
        refine Reg.takeT (i := 6) (v := ?_) rfl (by kernel_rfl) (by kernel_rfl) (by kernel_rfl) (by kernel_rfl) (fun _ _ _ h => h) (Or.inl ⟨by rfl, ?_⟩) (by assumption) ?_
        rotate_left 1
        focus (intro w hSw; (try dsimp only at hSw); go_simp; (try with_reducible rfl))
        try simp only [List.getElem_toArray, List.getElem_cons_succ, List.getElem_cons_zero, Act.put, List.setIfInBounds_toArray, List.set_cons_zero, List.set_cons_succ]
        refine Reg.lastT (i := 8) rfl (by kernel_rfl) (by rfl) (fun K hK => ?_)
        go_simp
        refine hK.out _ _ ?_
        clear hK K hHeld
        try simp only [List.getElem_toArray, List.getElem_cons_succ, List.getElem_cons_zero, Act.put, List.setIfInBounds_toArray, List.set_cons_zero, List.set_cons_succ]
        refine Reg.doneT (by kernel_rfl) ?_ _
        go_wp2_with fail
        go_meet
        exact ⟨_, A3, c3, rfl, by have hz := HR5.out.2.size; exact ⟨put2_box HV.out (.int .i64 b) (.slice A3 zs.length c3), by first | exact Nat.le_refl _ | (simp) | (simp; omega), rfl, put2_row HR5.out.1 HV.out (by decide) _ _, put2_below HR5.out.2 (by first | exact Nat.le_refl _ | (simp) | (simp; omega)) _ _⟩⟩
    case rest =>
      obtain ⟨Y, A3, c3, rfl, hI⟩ := hcut
      have HI0 := hide hI
      have HP := hide hP
      have HBD := hide hbd
      have hql2 : qs.length = ds.length := by
        have := congrArg List.length HQ.out
        simpa using this
      have HQL := hide hql2
      clear hI hP hbd Z0 HI HN HR4 hql2
      go_wp2_with fail
      go_loopw [7] (fun i wr => ∃ (k : Nat) (cur : List Int), k ≤ qs.length ∧ i = .int .i64 k ∧ (∃ x, okP (b + zs.length) x (ds.drop k) = true ∧ b ≤ x) ∧ apply b cur (ds.drop k) = apply b zs ds ∧ Inv w4 w4.heap.size Y b A3 zs.length c3 cur wr) (fun i _ => qs.length - (intOf i).toNat)
      case atStart => exact ⟨0, zs, Nat.zero_le _, rfl, ⟨b, by rw [List.drop_zero]; exact HP.out, Int.le_refl _⟩, by rw [List.drop_zero], HI0.out⟩
      case round =>
        obtain ⟨k, cur, hk, rfl, ⟨x, hx, hbx⟩, hap, hI⟩ := hrel
        clear HI0 HP
        by_cases hlt : k < qs.length
        · have hcons : ds.drop k = qs[k].d :: ds.drop (k + 1) := by
            rw [← HQ.out, List.drop_eq_getElem_cons (show k < (qs.map PV.d).length by simpa using hlt)]
            simp
          rw [hcons] at hx hap
          obtain ⟨h1, h2, h3, h4⟩ := okP_cons hx
          have hin : qs[k] ∈ qs := List.getElem_mem hlt
          have HRD := hide (fun W (hb : Below w4.heap.size w4 W) => ((HO4.out.rd.below hb).1.row patchC_len (by decide) hlt))
          have HZD := hide (fun W (hb : Below w4.heap.size w4 W) => ((HO4.out.rd.below hb).2 _ hin))
          have hzl := hqm _ hin
          clear hx hcons hin
          generalize qs[k] = q at *
          obtain ⟨qa, qA, qc, qz⟩ := q
          simp only [PV.d] at h1 h2 h3 h4 hap hzl
          obtain ⟨i, hi⟩ : ∃ i : Nat, qa = b + i := ⟨(qa - b).toNat, by omega⟩
          have hiz : i + qz.length ≤ zs.length := by omega
          have hap2 : apply b (PPatch.splice cur i qz) (ds.drop (k + 1)) = apply b zs ds := by
            have e : (qa - b).toNat = i := by omega
            simp only [apply, e] at hap
            exact hap
          have H4 := hide (show ∃ x, okP (b + zs.length) x (ds.drop (k + 1)) = true ∧ b ≤ x from ⟨_, h4, by omega⟩)
          have HAP := hide hap2
          have HII := hide hI
          have HQI := hide hi
          clear hi
          clear h1 h2 h3 h4 hap hap2 hbx hI
          go_wp2_with fail
          go_loopw [8] (fun jv wr => ∃ (j : Nat), j ≤ qz.length ∧ jv = .int .i64 j ∧ Inv w4 w4.heap.size Y b A3 zs.length c3 (PPatch.splice cur i (qz.take j)) wr) (fun jv _ => qz.length - (intOf jv).toNat)
          case atStart => exact ⟨0, Nat.zero_le _, rfl, by rw [splice_zero]; exact HII.out⟩
          case round =>
            obtain ⟨j, hj, rfl, hI⟩ := hrel
            obtain ⟨bq, off, rfl, hbq, hc⟩ := HRD.out _ hI.2.2.2.2
            have hc0 := hc 0 _ rfl
            have hc1 := hc 1 _ rfl
            simp only [Nat.add_zero] at hc0
            have HJ := hide hI
            have hcl := HII.out.2.2.1
            clear hc
            by_cases hjl : j < qz.length
            · obtain ⟨bz, offz, rfl, hbz, hcz⟩ := (HZD.out _ hI.2.2.2.2).int hjl
              obtain ⟨g, rfl, hg, hown⟩ := hI.own (i := i + j) (by omega)
              have HG := hide (And.intro hg hown)
              have x1 := hI.1.cell 1
              simp only [List.getElem?_toArray, List.getElem?_cons_zero, List.getElem?_cons_succ] at x1
              have x0 := (HX4.out.1.below hI.2.2.2.2 HX4.out.1.lt).cell 0
              simp only [List.getElem?_toArray, List.getElem?_cons_zero, List.getElem?_cons_succ] at x0
              obtain ⟨⟨old, hk0⟩, hfz0⟩ := own_old hown (j := i + j) (by omega)
              have HS := hide (splice_next (l := cur) (zs := qz) (i := i) (j := j) hjl (by rw [hcl]; exact hiz))
              have HST := hide (hI.store hg hown (i + j) qz[j])
              have w50 : IntKind.i64.wrap (qa - b) = (i : Int) := by have h := HQI.out; have h2 := HBD.out; rw [IntKind.wrap_i64]; omega
              obtain ⟨m, hm'⟩ : ∃ m : Nat, m = i + j := ⟨_, rfl⟩
              have w52 : IntKind.i64.wrap ((i : Int) + (j : Int)) = (m : Int) := by rw [IntKind.wrap_i64]; omega
              have hmn : m < zs.length := by omega
              rw [← hm'] at hk0 hfz0
              rw [← hm'] at HST
              rw [← hm'] at HS
              clear hm' hI hown hg hcl
              generalize qz[j] = z at *
              go_wp2_with fail
              refine Reg.startT (fun W => W.cell? ⟨Y, 1, none⟩ = some (.slice (some ⟨g, 0, none⟩) zs.length c3) ∧ W.cell? ⟨bq, off + k * 2, none⟩ = some (.int .i64 qa) ∧ W.cell? ⟨bq, off + k * 2 + 1, none⟩ = some (.slice (some ⟨bz, offz, none⟩) qz.length qc) ∧ W.cell? ⟨w.heap.size, 0, none⟩ = some (.int .i64 b) ∧ W.cell? ⟨bz, offz + j, none⟩ = some (.int .u8 z)) (fun j => j == 21) (by kernel_rfl) ?_
              have hHeld : wr.drew.cell? ⟨Y, 1, none⟩ = some (.slice (some ⟨g, 0, none⟩) zs.length c3) ∧ wr.drew.cell? ⟨bq, off + k * 2, none⟩ = some (.int .i64 qa) ∧ wr.drew.cell? ⟨bq, off + k * 2 + 1, none⟩ = some (.slice (some ⟨bz, offz, none⟩) qz.length qc) ∧ wr.drew.cell? ⟨w.heap.size, 0, none⟩ = some (.int .i64 b) ∧ wr.drew.cell? ⟨bz, offz + j, none⟩ = some (.int .u8 z) := ⟨x1, hc0, hc1, x0, hcz⟩
              refine Reg.takeT (i := 0) (v := ?_) rfl (by kernel_rfl) (by kernel_rfl) (by kernel_rfl) (by kernel_rfl) (fun _ _ _ h => h) (Or.inl ⟨by rfl, ?_⟩) (by assumption) ?_
              rotate_left 1
              focus (intro w hSw; (try dsimp only at hSw); go_simp; (try with_reducible rfl))
              try simp only [List.getElem_toArray, List.getElem_cons_succ, List.getElem_cons_zero, Act.put, List.setIfInBounds_toArray, List.set_cons_zero, List.set_cons_succ]
              refine Reg.takeT (i := 1) (v := ?_) rfl (by kernel_rfl) (by kernel_rfl) (by kernel_rfl) (by kernel_rfl) (fun _ _ _ h => h) (Or.inl ⟨by rfl, ?_⟩) (by assumption) ?_
              rotate_left 1
              focus (intro w hSw; (try dsimp only at hSw); go_simp; (try with_reducible rfl))
              try simp only [List.getElem_toArray, List.getElem_cons_succ, List.getElem_cons_zero, Act.put, List.setIfInBounds_toArray, List.set_cons_zero, List.set_cons_succ]
              refine Reg.takeT (i := 2) (v := ?_) rfl (by kernel_rfl) (by kernel_rfl) (by kernel_rfl) (by kernel_rfl) (fun _ _ _ h => h) (Or.inl ⟨by rfl, ?_⟩) (by assumption) ?_
              rotate_left 1
              focus (intro w hSw; (try dsimp only at hSw); go_simp; (try with_reducible rfl))
              try simp only [List.getElem_toArray, List.getElem_cons_succ, List.getElem_cons_zero, Act.put, List.setIfInBounds_toArray, List.set_cons_zero, List.set_cons_succ]
              refine Reg.takeT (i := 3) (v := ?_) rfl (by kernel_rfl) (by kernel_rfl) (by kernel_rfl) (by kernel_rfl) (fun _ _ _ h => h) (Or.inl ⟨by rfl, ?_⟩) (by assumption) ?_
              rotate_left 1
              focus (intro w hSw; (try dsimp only at hSw); go_simp; (try with_reducible rfl))
              try simp only [List.getElem_toArray, List.getElem_cons_succ, List.getElem_cons_zero, Act.put, List.setIfInBounds_toArray, List.set_cons_zero, List.set_cons_succ]
              refine Reg.takeT (i := 4) (v := ?_) rfl (by kernel_rfl) (by kernel_rfl) (by kernel_rfl) (by kernel_rfl) (fun _ _ _ h => h) (Or.inl ⟨by rfl, ?_⟩) (by assumption) ?_
              rotate_left 1
              focus (intro w hSw; (try dsimp only at hSw); go_simp; (try with_reducible rfl))
              try simp only [List.getElem_toArray, List.getElem_cons_succ, List.getElem_cons_zero, Act.put, List.setIfInBounds_toArray, List.set_cons_zero, List.set_cons_succ]
              refine Reg.takeT (i := 5) (v := ?_) rfl (by kernel_rfl) (by kernel_rfl) (by kernel_rfl) (by kernel_rfl) (fun _ _ _ h => h) (Or.inl ⟨by rfl, ?_⟩) (by assumption) ?_
              rotate_left 1
              focus (intro w hSw; (try dsimp only at hSw); go_simp; (try with_reducible rfl))
              try simp only [List.getElem_toArray, List.getElem_cons_succ, List.getElem_cons_zero, Act.put, List.setIfInBounds_toArray, List.set_cons_zero, List.set_cons_succ]
              refine Reg.takeT (i := 6) (v := ?_) rfl (by kernel_rfl) (by kernel_rfl) (by kernel_rfl) (by kernel_rfl) (fun _ _ _ h => h) (Or.inl ⟨by rfl, ?_⟩) (by assumption) ?_
              rotate_left 1
              focus (intro w hSw; (try dsimp only at hSw); go_simp; (try with_reducible rfl))
              try simp only [List.getElem_toArray, List.getElem_cons_succ, List.getElem_cons_zero, Act.put, List.setIfInBounds_toArray, List.set_cons_zero, List.set_cons_succ]
              refine Reg.takeT (i := 7) (v := ?_) rfl (by kernel_rfl) (by kernel_rfl) (by kernel_rfl) (by kernel_rfl) (fun _ _ _ h => h) (Or.inl ⟨by rfl, ?_⟩) (by assumption) ?_
              rotate_left 1
              focus (intro w hSw; (try dsimp only at hSw); go_simp; (try with_reducible rfl))
              try simp only [List.getElem_toArray, List.getElem_cons_succ, List.getElem_cons_zero, Act.put, List.setIfInBounds_toArray, List.set_cons_zero, List.set_cons_succ]
              refine Reg.takeT (i := 8) (v := ?_) rfl (by kernel_rfl) (by kernel_rfl) (by kernel_rfl) (by kernel_rfl) (fun _ _ _ h => h) (Or.inl ⟨by rfl, ?_⟩) (by assumption) ?_
              rotate_left 1
              focus (intro w hSw; (try dsimp only at hSw); go_simp; (try with_reducible rfl))
              try simp only [List.getElem_toArray, List.getElem_cons_succ, List.getElem_cons_zero, Act.put, List.setIfInBounds_toArray, List.set_cons_zero, List.set_cons_succ]
              refine Reg.takeT (i := 9) (v := ?_) rfl (by kernel_rfl) (by kernel_rfl) (by kernel_rfl) (by kernel_rfl) (fun _ _ _ h => h) (Or.inl ⟨by rfl, ?_⟩) (by assumption) ?_
              rotate_left 1
              focus (intro w hSw; (try dsimp only at hSw); go_simp; (try with_reducible rfl))
              try simp only [List.getElem_toArray, List.getElem_cons_succ, List.getElem_cons_zero, Act.put, List.setIfInBounds_toArray, List.set_cons_zero, List.set_cons_succ]
              refine Reg.takeT (i := 10) (v := ?_) rfl (by kernel_rfl) (by kernel_rfl) (by kernel_rfl) (by kernel_rfl) (fun _ _ _ h => h) (Or.inl ⟨by rfl, ?_⟩) (by assumption) ?_
              rotate_left 1
              focus (intro w hSw; (try dsimp only at hSw); go_simp; (try with_reducible rfl))
              try simp only [List.getElem_toArray, List.getElem_cons_succ, List.getElem_cons_zero, Act.put, List.setIfInBounds_toArray, List.set_cons_zero, List.set_cons_succ]
              refine Reg.takeT (i := 11) (v := ?_) rfl (by kernel_rfl) (by kernel_rfl) (by kernel_rfl) (by kernel_rfl) (fun _ _ _ h => h) (Or.inl ⟨by rfl, ?_⟩) (by assumption) ?_
              rotate_left 1
              focus (intro w hSw; (try dsimp only at hSw); go_simp; (try with_reducible rfl))
              try simp only [List.getElem_toArray, List.getElem_cons_succ, List.getElem_cons_zero, Act.put, List.setIfInBounds_toArray, List.set_cons_zero, List.set_cons_succ]
              refine Reg.takeT (i := 12) (v := ?_) rfl (by kernel_rfl) (by kernel_rfl) (by kernel_rfl) (by kernel_rfl) (fun _ _ _ h => h) (Or.inl ⟨by rfl, ?_⟩) (by assumption) ?_
              rotate_left 1
              focus (intro w hSw; (try dsimp only at hSw); go_simp; (try with_reducible rfl))
              try simp only [List.getElem_toArray, List.getElem_cons_succ, List.getElem_cons_zero, Act.put, List.setIfInBounds_toArray, List.set_cons_zero, List.set_cons_succ]
              refine Reg.takeT (i := 13) (v := ?_) rfl (by kernel_rfl) (by kernel_rfl) (by kernel_rfl) (by kernel_rfl) (fun _ _ _ h => h) (Or.inl ⟨by rfl, ?_⟩) (by assumption) ?_
              rotate_left 1
              focus (intro w hSw; (try dsimp only at hSw); go_simp; (try with_reducible rfl))
              try simp only [List.getElem_toArray, List.getElem_cons_succ, List.getElem_cons_zero, Act.put, List.setIfInBounds_toArray, List.set_cons_zero, List.set_cons_succ]
              refine Reg.takeT (i := 14) (v := ?_) rfl (by kernel_rfl) (by kernel_rfl) (by kernel_rfl) (by kernel_rfl) (fun _ _ _ h => h) (Or.inl ⟨by rfl, ?_⟩) (by assumption) ?_
              rotate_left 1
              focus (intro w hSw; (try dsimp only at hSw); go_simp; (try with_reducible rfl))
              try simp only [List.getElem_toArray, List.getElem_cons_succ, List.getElem_cons_zero, Act.put, List.setIfInBounds_toArray, List.set_cons_zero, List.set_cons_succ]
              refine Reg.takeT (i := 15) (v := ?_) rfl (by kernel_rfl) (by kernel_rfl) (by kernel_rfl) (by kernel_rfl) (fun _ _ _ h => h) (Or.inl ⟨by rfl, ?_⟩) (by assumption) ?_
              rotate_left 1
              focus (intro w hSw; (try dsimp only at hSw); go_simp; (try with_reducible rfl))
              try simp only [List.getElem_toArray, List.getElem_cons_succ, List.getElem_cons_zero, Act.put, List.setIfInBounds_toArray, List.set_cons_zero, List.set_cons_succ]
              refine Reg.takeT (i := 16) (v := ?_) rfl (by kernel_rfl) (by kernel_rfl) (by kernel_rfl) (by kernel_rfl) (fun _ _ _ h => h) (Or.inl ⟨by rfl, ?_⟩) (by assumption) ?_
              rotate_left 1
              focus (intro w hSw; (try dsimp only at hSw); go_simp; (try with_reducible rfl))
              try simp only [List.getElem_toArray, List.getElem_cons_succ, List.getElem_cons_zero, Act.put, List.setIfInBounds_toArray, List.set_cons_zero, List.set_cons_succ]
              refine Reg.takeT (i := 17) (v := ?_) rfl (by kernel_rfl) (by kernel_rfl) (by kernel_rfl) (by kernel_rfl) (fun _ _ _ h => h) (Or.inl ⟨by rfl, ?_⟩) (by assumption) ?_
              rotate_left 1
              focus (intro w hSw; (try dsimp only at hSw); go_simp; (try with_reducible rfl))
              try simp only [List.getElem_toArray, List.getElem_cons_succ, List.getElem_cons_zero, Act.put, List.setIfInBounds_toArray, List.set_cons_zero, List.set_cons_succ]
              refine Reg.takeT (i := 18) (v := ?_) rfl (by kernel_rfl) (by kernel_rfl) (by kernel_rfl) (by kernel_rfl) (fun _ _ _ h => h) (Or.inl ⟨by rfl, ?_⟩) (by assumption) ?_
              rotate_left 1
              focus (intro w hSw; (try dsimp only at hSw); go_simp; (try with_reducible rfl))
              try simp only [List.getElem_toArray, List.getElem_cons_succ, List.getElem_cons_zero, Act.put, List.setIfInBounds_toArray, List.set_cons_zero, List.set_cons_succ]
              refine Reg.takeT (i := 19) (v := ?_) rfl (by kernel_rfl) (by kernel_rfl) (by kernel_rfl) (by kernel_rfl) (fun _ _ _ h => h) (Or.inl ⟨by rfl, ?_⟩) (by assumption) ?_
              rotate_left 1
              focus (intro w hSw; (try dsimp only at hSw); go_simp; (try with_reducible rfl))
              try simp only [List.getElem_toArray, List.getElem_cons_succ, List.getElem_cons_zero, Act.put, List.setIfInBounds_toArray, List.set_cons_zero, List.set_cons_succ]
              refine Reg.takeT (i := 20) (v := ?_) rfl (by kernel_rfl) (by kernel_rfl) (by kernel_rfl) (by kernel_rfl) (fun _ _ _ h => h) (Or.inl ⟨by rfl, ?_⟩) (by assumption) ?_
              rotate_left 1
              focus (intro w hSw; (try dsimp only at hSw); go_simp; (try with_reducible rfl))
              try simp only [List.getElem_toArray, List.getElem_cons_succ, List.getElem_cons_zero, Act.put, List.setIfInBounds_toArray, List.set_cons_zero, List.set_cons_succ]
              refine Reg.lastT (i := 21) rfl (by kernel_rfl) (by rfl) (fun K hK => ?_)
              go_simp
              refine hK.out _ _ ?_
              clear hK K hHeld
              try simp only [List.getElem_toArray, List.getElem_cons_succ, List.getElem_cons_zero, Act.put, List.setIfInBounds_toArray, List.set_cons_zero, List.set_cons_succ]
              refine Reg.doneT (by kernel_rfl) ?_ _
              clear hc0 hc1 hcz x0 x1 hk0 hfz0 w50 w52
              go_wp2_with fail
              go_roundw
              case rel => exact ⟨j + 1, by omega, by go_num, by rw [← HS.out]; exact HST.out.call (below_dr (Below.refl _ _))⟩
              case measure => simp [intOf]; omega
            · clear hc0
              have e : j = qz.length := by omega
              subst e
              have HJ2 := hide (show Inv w4 w4.heap.size Y b A3 zs.length c3 (PPatch.splice cur i qz) wr from by rw [← splice_all cur qz i]; exact HJ.out)
              clear HJ hI
              go_wp2_with fail
              first
                | exact ⟨⟨k + 1, PPatch.splice cur i qz, by omega, by go_num, H4.out, HAP.out, HJ2.out⟩, by simp [intOf]; omega⟩
                | (go_roundw
                   case rel => exact ⟨k + 1, PPatch.splice cur i qz, by omega, by go_num, H4.out, HAP.out, HJ2.out⟩
                   case measure => simp [intOf]; omega)
        · have e : k = qs.length := by omega
          subst e
          rw [HQL.out, List.drop_length] at hap
          simp only [apply] at hap
          have hX1 := HX4.out.2.below hI.2.2.2.2 HX4.out.2.lt
          have x0 := hI.1.cell 0
          have x1 := hI.1.cell 1
          have y0 := hX1.cell 0
          have y1 := hX1.cell 1
          have yf0 := hX1.frozen 0
          have yf1 := hX1.frozen 1
          simp only [List.getElem?_toArray, List.getElem?_cons_zero, List.getElem?_cons_succ] at x0 x1 y0 y1
          have k' := put2_box hX1 (.int .i64 b) (.slice A3 zs.length c3)
          have k0 := k'.cell 0
          have k1 := k'.cell 1
          simp only [List.getElem?_toArray, List.getElem?_cons_zero, List.getElem?_cons_succ] at k0 k1
          have HF := hide (show RetImg b (apply b zs ds) true w (.returned (.tuple #[.agg #[.int .i64 b, .slice A3 zs.length c3], .bool true])) ((wr.setCell ⟨w.heap.size + 1, 0, none⟩ (.int .i64 b)).setCell ⟨w.heap.size + 1, 1, none⟩ (.slice A3 zs.length c3)) from by
            rw [← hap, ← hI.2.2.1]
            refine ⟨A3, c3, rfl, ?_, put2_below (HB4.out.trans (hI.2.2.2.2.mono HB4.out.size)) (Nat.le_succ _) _ _⟩
            refine put2_row ?_ hX1 (by decide) _ _
            have := hI.2.2.2.1.down HB4.out.size
            rw [← hI.2.2.1] at this
            exact this)
          clear k' hI hX1 hap hx
          go_wp2_with fail
          exact bodyPost_ret (v := .tuple #[.agg #[.int .i64 b, .slice A3 zs.length c3], .bool true]) (by simp [results, Try.results13, go_sem, k0, k1]) rfl (by rw [HOKF.out]; exact HF.out)
end Go.Proofs.Ytjnnjgogpapbhaa.CApplyS
