/- The reference's copies that share nothing: sections, objects, and lists of them. -/
import Derived.Test.YtmglgjchemecjaaFnLandmarksOfM4
import Derived.Lib.AppendZerosOnto
set_option linter.unusedSimpArgs false
set_option linter.unusedVariables false
namespace Go.Proofs.Ytmglgjchemecjaa.COwnL
set_option maxRecDepth 200000
open Go.ChangeShapes Go.WideShapes Go.ChangeAt Go.RowKit Kit CFixups CSymbols PObj BObj BObj2 BList CObjValid CSection CSections CMarkRows CCopyS WObj CObjL
set_option maxHeartbeats 4000000 in
theorem ownSection_any (p : SV) (w : World) (hr : RdS w w.heap.size p) (hn : (p.A = none → p.c = 0) ∧ (p.F = none → p.fc = 0)) (h1 : p.zs.length ≤ 1048576) (h2 : p.fs.length ≤ 1048576) :
    Calls Try.prog 225 #[.agg #[.string p.nm, .int .i64 p.kd, .int .i64 p.al, .slice p.A p.zs.length p.c, .int .i64 p.sz, .slice p.F p.fs.length p.fc]] w (RetS p.d w) := by
  obtain ⟨i8, hi81, hi82, hi83, hi84⟩ := info_parts CBytes.info8
  have HI8 := hide (And.intro hi81 (And.intro hi82 (And.intro hi83 hi84)))
  clear hi81 hi82 hi83 hi84
  obtain ⟨iF, hif1, hif2, hif3, hif4⟩ := info_parts CFixups.info
  have HIF := hide (And.intro hif1 (And.intro hif2 (And.intro hif3 hif4)))
  clear hif1 hif2 hif3 hif4
  have HR := hide hr
  have HN := hide hn
  clear hr hn
  have HB := hide (show Below w.heap.size w ((((w.alloc (.cells #[.string p.nm, .int .i64 p.kd, .int .i64 p.al, .slice p.A p.zs.length p.c, .int .i64 p.sz, .slice p.F p.fs.length p.fc] 73)).alloc (.cells #[.string ⟨#[]⟩, .int .i64 0, .int .i64 0, .slice none 0 0, .int .i64 0, .slice none 0 0] 73)).alloc (.cells #[.string p.nm, .int .i64 p.kd, .int .i64 p.al, .slice p.A p.zs.length p.c, .int .i64 p.sz, .slice p.F p.fs.length p.fc] 73)).alloc (.cells #[] 5)) from (by repeat (first | exact Below.refl _ _ | with_reducible assumption | (refine Below.drew ?_) | (refine Below.drewN ?_ _) | (refine Below.alloc ?_ (by simp; try omega) _) | (refine Below.setCell ?_ (by simp; try omega) _))))
  have HV := hide ((((Box.new w 73 #[.string p.nm, .int .i64 p.kd, .int .i64 p.al, .slice p.A p.zs.length p.c, .int .i64 p.sz, .slice p.F p.fs.length p.fc]).alloc (.cells #[.string ⟨#[]⟩, .int .i64 0, .int .i64 0, .slice none 0 0, .int .i64 0, .slice none 0 0] 73)).alloc (.cells #[.string p.nm, .int .i64 p.kd, .int .i64 p.al, .slice p.A p.zs.length p.c, .int .i64 p.sz, .slice p.F p.fs.length p.fc] 73)).alloc (.cells #[] 5))
  have HR0 := ((Box.new (w.alloc (.cells #[.string p.nm, .int .i64 p.kd, .int .i64 p.al, .slice p.A p.zs.length p.c, .int .i64 p.sz, .slice p.F p.fs.length p.fc] 73)) 73 #[.string ⟨#[]⟩, .int .i64 0, .int .i64 0, .slice none 0 0, .int .i64 0, .slice none 0 0]).alloc (.cells #[.string p.nm, .int .i64 p.kd, .int .i64 p.al, .slice p.A p.zs.length p.c, .int .i64 p.sz, .slice p.F p.fs.length p.fc] 73)).alloc (.cells #[] 5)
  have HX0 := (Box.new ((w.alloc (.cells #[.string p.nm, .int .i64 p.kd, .int .i64 p.al, .slice p.A p.zs.length p.c, .int .i64 p.sz, .slice p.F p.fs.length p.fc] 73)).alloc (.cells #[.string ⟨#[]⟩, .int .i64 0, .int .i64 0, .slice none 0 0, .int .i64 0, .slice none 0 0] 73)) 73 #[.string p.nm, .int .i64 p.kd, .int .i64 p.al, .slice p.A p.zs.length p.c, .int .i64 p.sz, .slice p.F p.fs.length p.fc]).alloc (.cells #[] 5)
  simp only [World.size_alloc] at HR0 HX0
  have HRR := hide HR0
  have HX := hide HX0
  clear HR0 HX0
  go_enter Try.func225, Try.ntmps225
  go_wp2_with (at_builtin; refine wpList_app _ rfl (.tmp 5) (.tmp 7) 22 rfl 5 i8 (.int .u8 0) 1 1 Try.underlying22 HI8.out.1 HI8.out.2.1 HI8.out.2.2.1 HI8.out.2.2.2 rfl (by decide) w.heap.size _ 0 0 [] rfl (Row.empty _ _ _ _ _) HB.out.size p.A p.zs.length p.c (ints .u8 p.zs) rfl (HR.out.1.below HB.out) (by simp) HN.out.1 (one_ints _ _) ?n1 ?n2 ?_)
  case n1 => unfold maxLen; omega
  case n2 => omega
  intro A1 n1 c1 w1 hn1 o1 g1 k1
  have hn1' : n1 = p.zs.length := by omega
  clear hn1
  subst hn1'
  generalize (((w.alloc (.cells #[.string p.nm, .int .i64 p.kd, .int .i64 p.al, .slice p.A p.zs.length p.c, .int .i64 p.sz, .slice p.F p.fs.length p.fc] 73)).alloc (.cells #[.string ⟨#[]⟩, .int .i64 0, .int .i64 0, .slice none 0 0, .int .i64 0, .slice none 0 0] 73)).alloc (.cells #[.string p.nm, .int .i64 p.kd, .int .i64 p.al, .slice p.A p.zs.length p.c, .int .i64 p.sz, .slice p.F p.fs.length p.fc] 73)).alloc (.cells #[] 5) = wa at *
  have b1 : Below wa.heap.size wa w1 := below_tr (Below.refl _ _) g1
  have HA1 := hide (show Row w1 w.heap.size 5 1 A1 p.zs.length c1 (ints .u8 p.zs) from by simpa using o1)
  replace HB := hide (HB.out.trans (b1.mono HB.out.size))
  replace HV := hide (HV.out.call b1)
  replace HRR := hide (HRR.out.call b1)
  replace HX := hide (HX.out.call b1)
  clear b1
  clear o1 g1 k1
  generalize hRq : w.heap.size + 1 = R at *
  generalize hXq : R + 1 = X at *
  have HLT := hide (show w.heap.size < R ∧ R < X from by omega)
  clear hRq hXq
  have x3 := HX.out.cell 3
  simp only [List.getElem?_toArray, List.getElem?_cons_zero, List.getElem?_cons_succ] at x3
  have fx := HX.out.frozen 3
  have hxl := HX.out.lt
  have HX1 := hide (show Box (w1.setCell ⟨X, 3, none⟩ (.slice A1 p.zs.length c1)) X 73 #[.string p.nm, .int .i64 p.kd, .int .i64 p.al, .slice A1 p.zs.length c1, .int .i64 p.sz, .slice p.F p.fs.length p.fc] from HX.out.set 3 _)
  have HV1 := hide (HV.out.far (p := ⟨X, 3, none⟩) (by have := HLT.out; show w.heap.size ≠ X; omega) (.slice A1 p.zs.length c1))
  have HR1 := hide (HRR.out.far (p := ⟨X, 3, none⟩) (by have := HLT.out; show R ≠ X; omega) (.slice A1 p.zs.length c1))
  have HB1 := hide (HB.out.setCell (p := ⟨X, 3, none⟩) (by have := HLT.out; show w.heap.size ≤ X; omega) (.slice A1 p.zs.length c1))
  have HA2 := hide (HA1.out.set (a := ⟨X, 3, none⟩) (HA1.out.box HX.out (by decide)) (.slice A1 p.zs.length c1))
  have hz1 : (w1.setCell ⟨X, 3, none⟩ (.slice A1 p.zs.length c1)).heap.size = w1.heap.size := by simp [World.setCell]
  have B2 : Below (w1.setCell ⟨X, 3, none⟩ (.slice A1 p.zs.length c1)).heap.size (w1.setCell ⟨X, 3, none⟩ (.slice A1 p.zs.length c1)) ((w1.setCell ⟨X, 3, none⟩ (.slice A1 p.zs.length c1)).alloc (.cells #[] 77)) := (by repeat (first | exact Below.refl _ _ | with_reducible assumption | (refine Below.drew ?_) | (refine Below.drewN ?_ _) | (refine Below.alloc ?_ (by simp; try omega) _) | (refine Below.setCell ?_ (by simp; try omega) _)))
  clear HX HV HRR HB HA1
  replace HB1 := hide (HB1.out.trans (B2.mono HB1.out.size))
  replace HX1 := hide (HX1.out.call B2)
  replace HV1 := hide (HV1.out.call B2)
  replace HR1 := hide (HR1.out.call B2)
  replace HA2 := hide (HA2.out.call B2)
  clear B2
  have v5 := HV1.out.cell 5
  simp only [List.getElem?_toArray, List.getElem?_cons_zero, List.getElem?_cons_succ] at v5
  have hvl := HV1.out.lt
  go_wp2_with (at_builtin; refine wpList_app _ rfl (.tmp 10) (.tmp 12) 71 rfl 77 iF (.agg #[.int .i64 0, .int .i64 0, .int .i64 0, .int .i64 0]) 4 32 Try.underlying71 HIF.out.1 HIF.out.2.1 HIF.out.2.2.1 HIF.out.2.2.2 rfl (by decide) w.heap.size _ 0 0 [] rfl (Row.empty _ _ _ _ _) HB1.out.size p.F p.fs.length p.fc (cellsOf fixupC p.fs) rfl (HR.out.2.below HB1.out) (cellsOf_len fixupC_len p.fs) HN.out.2 (one_fix _) ?m1 ?m2 ?_)
  case m1 => unfold maxLen; omega
  case m2 => omega
  intro A2 n2 c2 w2 hn2 o2 g2 k2
  have hn2' : n2 = p.fs.length := by omega
  clear hn2 x3 fx hxl v5 hvl hz1
  subst hn2'
  generalize (w1.setCell ⟨X, 3, none⟩ (.slice A1 p.zs.length c1)).alloc (.cells #[] 77) = wb at *
  have b2 : Below wb.heap.size wb w2 := below_tr (Below.refl _ _) g2
  have HF2 := hide (show Row w2 w.heap.size 77 4 A2 p.fs.length c2 (cellsOf fixupC p.fs) from by simpa using o2)
  replace HB1 := hide (HB1.out.trans (b2.mono HB1.out.size))
  replace HX1 := hide (HX1.out.call b2)
  replace HV1 := hide (HV1.out.call b2)
  replace HR1 := hide (HR1.out.call b2)
  replace HA2 := hide (HA2.out.call b2)
  clear b2
  clear o2 g2 k2
  have x5 := HX1.out.cell 5
  simp only [List.getElem?_toArray, List.getElem?_cons_zero, List.getElem?_cons_succ] at x5
  have fx := HX1.out.frozen 5
  have hxl := HX1.out.lt
  have HX2 := hide (show Box (w2.setCell ⟨X, 5, none⟩ (.slice A2 p.fs.length c2)) X 73 #[.string p.nm, .int .i64 p.kd, .int .i64 p.al, .slice A1 p.zs.length c1, .int .i64 p.sz, .slice A2 p.fs.length c2] from HX1.out.set 5 _)
  have HR2 := hide (HR1.out.far (p := ⟨X, 5, none⟩) (by have := HLT.out; show R ≠ X; omega) (.slice A2 p.fs.length c2))
  have HB2 := hide (HB1.out.setCell (p := ⟨X, 5, none⟩) (by have := HLT.out; show w.heap.size ≤ X; omega) (.slice A2 p.fs.length c2))
  have HQ := hide (show RwS (w2.setCell ⟨X, 5, none⟩ (.slice A2 p.fs.length c2)) w.heap.size ⟨p.nm, p.kd, p.al, A1, c1, p.zs, p.sz, A2, c2, p.fs⟩ from ⟨HA2.out.set (a := ⟨X, 5, none⟩) (HA2.out.box HX1.out (by decide)) _, HF2.out.set (a := ⟨X, 5, none⟩) (HF2.out.box HX1.out (by decide)) _⟩)
  clear HX1 HV1 HR1 HB1 HA2 HF2
  have y0 := HX2.out.cell 0
  have y1 := HX2.out.cell 1
  have y2 := HX2.out.cell 2
  have y3 := HX2.out.cell 3
  have y4 := HX2.out.cell 4
  have y5 := HX2.out.cell 5
  simp only [List.getElem?_toArray, List.getElem?_cons_zero, List.getElem?_cons_succ] at y0 y1 y2 y3 y4 y5
  have hyl := HX2.out.lt
  have r0 := HR2.out.cell 0
  have r1 := HR2.out.cell 1
  have r2 := HR2.out.cell 2
  have r3 := HR2.out.cell 3
  have r4 := HR2.out.cell 4
  have r5 := HR2.out.cell 5
  simp only [List.getElem?_toArray, List.getElem?_cons_zero, List.getElem?_cons_succ] at r0 r1 r2 r3 r4 r5
  have f0 := HR2.out.frozen 0
  have f1 := HR2.out.frozen 1
  have f2 := HR2.out.frozen 2
  have f3 := HR2.out.frozen 3
  have f4 := HR2.out.frozen 4
  have f5 := HR2.out.frozen 5
  have hrl := HR2.out.lt
  go_wp2_with fail
  have hne : ∀ k, sblk ⟨p.nm, p.kd, p.al, A1, c1, p.zs, p.sz, A2, c2, p.fs⟩ k → k ≠ R := HQ.out.box HR2.out (by decide) (by decide)
  have HFIN := hide (show RwS (put6 (w2.setCell ⟨X, 5, none⟩ (.slice A2 p.fs.length c2)) R 0 (.string p.nm) (.int .i64 p.kd) (.int .i64 p.al) (.slice A1 p.zs.length c1) (.int .i64 p.sz) (.slice A2 p.fs.length c2)) w.heap.size ⟨p.nm, p.kd, p.al, A1, c1, p.zs, p.sz, A2, c2, p.fs⟩ ∧ Below w.heap.size w (put6 (w2.setCell ⟨X, 5, none⟩ (.slice A2 p.fs.length c2)) R 0 (.string p.nm) (.int .i64 p.kd) (.int .i64 p.al) (.slice A1 p.zs.length c1) (.int .i64 p.sz) (.slice A2 p.fs.length c2)) from ⟨put6_rwS HQ.out hne, put6_below HB2.out (by have := HLT.out; omega)⟩)
  have kk := ((((HR2.out.set 0 (.string p.nm)).set 1 (.int .i64 p.kd)).set 2 (.int .i64 p.al)).set 3 (.slice A1 p.zs.length c1)).set 4 (.int .i64 p.sz) |>.set 5 (.slice A2 p.fs.length c2)
  have k0 := kk.cell 0
  have k1 := kk.cell 1
  have k2 := kk.cell 2
  have k3 := kk.cell 3
  have k4 := kk.cell 4
  have k5 := kk.cell 5
  simp only [List.setIfInBounds_toArray, List.set_cons_zero, List.set_cons_succ, List.getElem?_toArray, List.getElem?_cons_zero, List.getElem?_cons_succ] at k0 k1 k2 k3 k4 k5
  exact bodyPost_ret (v := .agg (secC ⟨p.nm, p.kd, p.al, A1, c1, p.zs, p.sz, A2, c2, p.fs⟩).toArray) (by simp [results, Try.results225, go_sem, secC, k0, k1, k2, k3, k4, k5]) rfl ⟨_, rfl, rfl, HFIN.out.1, HFIN.out.2⟩
theorem secs_snoc {w w' : World} {base c N : Nat} {A : Option Addr} {ps : List SV} (h : OwnSs w base A c ps) {q : SV} (hq : RwS w base q) (hold : ∀ p ∈ ps, ∀ k, sblk p k → k < N) (hnew : ∀ k, sblk q k → N ≤ k) {A' : Option Addr} {n' c' : Nat} (hn : n' = ps.length + 1)
    (row : Row w' base 73 6 A' n' c' (cellsOf secC ps ++ secC q)) (g : w.grownBy w' (blk A c)) : OwnSs w' base A' c' (ps ++ [q]) := by
  subst hn
  have hS : ∀ p, RwS w base p → RwS w' base p := fun p hp => ⟨hp.1.grown g (fun k hk => apartT hp.1 h.1 (by decide) k hk), hp.2.grown g (fun k hk => apartT hp.2 h.1 (by decide) k hk)⟩
  refine ⟨?_, RwSs.snoc (fun p hp => hS p (h.2.1 p hp)) (hS q hq), PwSs.snoc h.2.2 hold hnew⟩
  rw [← cells_snoc] at row
  show Row w' base _ 6 A' (ps ++ [q]).length c' _
  rw [List.length_append]
  exact row
theorem one_secC (q : SV) : ∀ u ∈ secC q, u.oneCell' = true := by
  intro u hu
  simp only [secC, List.mem_cons, List.not_mem_nil, or_false] at hu
  rcases hu with rfl | rfl | rfl | rfl | rfl | rfl <;> rfl
theorem one_objC (q : OV) : ∀ u ∈ objC q, u.oneCell' = true := by
  intro u hu
  simp only [objC, List.mem_cons, List.not_mem_nil, or_false] at hu
  rcases hu with rfl | rfl <;> rfl
/-- What the copies ask: a nil slice has no room, and nothing is longer than the laws let. -/
def CpS (p : SV) : Prop := ((p.A = none → p.c = 0) ∧ (p.F = none → p.fc = 0)) ∧ p.zs.length ≤ 1048576 ∧ p.fs.length ≤ 1048576
def CpO (o : OV) : Prop := o.ps.length ≤ 1048576 ∧ o.ys.length ≤ 1048576 ∧ (o.Y = none → o.yc = 0) ∧ ∀ p ∈ o.ps, CpS p
set_option maxHeartbeats 2000000 in
theorem ownSections_any (A : Option Addr) (ps : List SV) (c : Nat) (w : World) (hr : RdSs w w.heap.size A ps) (hm : ps.length ≤ 1048576) (hl : ∀ p ∈ ps, CpS p) :
    Calls Try.prog 223 #[.slice A ps.length c] w (RetSs (ps.map SV.d) w) := by
  obtain ⟨i0, hi1, hi2, hi3, hi4⟩ := info_parts BObj.info
  have HI := hide (And.intro hi1 (And.intro hi2 (And.intro hi3 hi4)))
  clear hi1 hi2 hi3 hi4
  have HR := hide hr
  have HL := hide hl
  clear hr hl
  have HB := hide (show Below w.heap.size w (w.alloc (.cells #[] 73)) from (by repeat (first | exact Below.refl _ _ | with_reducible assumption | (refine Below.drew ?_) | (refine Below.drewN ?_ _) | (refine Below.alloc ?_ (by simp; try omega) _) | (refine Below.setCell ?_ (by simp; try omega) _))))
  go_enter Try.func223, Try.ntmps223
  go_wp2_with fail
  generalize w.alloc (.cells #[] 73) = w0 at *
  go_loopw [3, 4] (fun s i wi => ∃ (k : Nat) (qs : List SV) (Aq : Option Addr) (cq : Nat), k ≤ ps.length ∧ qs.length = k ∧ s = .slice Aq qs.length cq ∧ i = .int .i64 k ∧ qs.map SV.d = (ps.take k).map SV.d ∧ OwnSs wi w.heap.size Aq cq qs ∧ Below w.heap.size w wi) (fun _ i _ => ps.length - (intOf i).toNat)
  case atStart => exact ⟨0, [], _, 0, Nat.zero_le _, rfl, rfl, rfl, rfl, ⟨Row.empty _ _ _ _ _, (fun p hp => by cases hp), List.Pairwise.nil⟩, HB.out⟩
  case round =>
    clear HB
    obtain ⟨k, qs, Aq, cq, hk, hql, rfl, rfl, hqd, ho, hb⟩ := hrel
    have HO := hide ho
    have HB := hide hb
    have HQL := hide hql
    have HQD := hide hqd
    have hq1 : qs.length ≤ 1048576 := by omega
    clear hqd ho hql
    by_cases hlt : k < ps.length
    · obtain ⟨b, off, rfl, hbg, hc⟩ := (HR.out.1.below hb).row secC_len (by decide) hlt
      have hc0 := hc 0 _ rfl
      have hc1 := hc 1 _ rfl
      have hc2 := hc 2 _ rfl
      have hc3 := hc 3 _ rfl
      have hc4 := hc 4 _ rfl
      have hc5 := hc 5 _ rfl
      simp only [Nat.add_zero] at hc0
      have HM := hide (HL.out _ (List.getElem_mem hlt))
      have HRS := hide (((HR.out.2 _ (List.getElem_mem hlt)).below hb).more hb.size)
      have HD := hide (show qs.map SV.d ++ [(ps[k]).d] = (ps.take (k + 1)).map SV.d by rw [take_succ hlt, List.map_append, HQD.out]; rfl)
      clear hb hc
      generalize ps[k] = p at *
      go_wp2_with fail
      refine (ownSection_any p wr HRS.out HM.out.1 HM.out.2.1 HM.out.2.2).mono ?_
      rintro e w2 ⟨q, rfl, hqd, r2, b2⟩
      have HRQ := hide (r2.down HB.out.size)
      have HNEW := hide (fun j (hj : sblk q j) => (show wr.heap.size ≤ j from (r2.lt j hj).1))
      have HOLD := hide (fun x (hx : x ∈ qs) j (hj : sblk x j) => (show j < wr.heap.size from ((HO.out.2.1 x hx).lt j hj).2))
      have HQ := hide hqd
      have HO2 := hide (HO.out.call b2)
      replace HB := hide (HB.out.trans (b2.mono HB.out.size))
      clear b2
      clear hqd r2 HO HRS hc0 hc1 hc2 hc3 hc4 hc5
      have B3 : Below w2.heap.size w2 (w2.alloc (.cells (secC q).toArray 73)) := (by repeat (first | exact Below.refl _ _ | with_reducible assumption | (refine Below.drew ?_) | (refine Below.drewN ?_ _) | (refine Below.alloc ?_ (by simp; try omega) _) | (refine Below.setCell ?_ (by simp; try omega) _)))
      have HO3 := hide (HO2.out.call B3)
      have HRQ3 := hide (HRQ.out.call B3)
      replace HB := hide (HB.out.trans (B3.mono HB.out.size))
      clear B3
      clear HO2 HRQ
      simp only [secC] at HO3 HRQ3 HB ⊢
      go_wp2_with (at_builtin; refine wpList_app _ rfl (.tmp 12) (.tmp 18) 23 rfl 73 i0 (.agg #[.string ByteArray.empty, .int .i64 0, .int .i64 0, .slice none 0 0, .int .i64 0, .slice none 0 0]) 6 88 Try.underlying23 HI.out.1 HI.out.2.1 HI.out.2.2.1 HI.out.2.2.2 rfl (by decide) w.heap.size Aq qs.length cq (cellsOf secC qs) rfl HO3.out.1 HB.out.size (some ⟨w2.heap.size, 0, none⟩) 1 1 (secC q) rfl (rd_lit w2 (secC q).toArray 73 _ rfl) rfl (fun h => by cases h) (one_secC q) ?n1 ?n2 ?_)
      case n1 => unfold maxLen; omega
      case n2 => omega
      intro A8 n8 c8 w8 hn8 o8 g8 k8
      have HOW := hide (secs_snoc HO3.out HRQ3.out HOLD.out HNEW.out hn8 o8 g8)
      have HB8 := hide (HB.out.grown g8 HB.out.size (fun j hj => (HO3.out.1.lt j hj).1))
      have hn8' : n8 = (qs ++ [q]).length := by rw [hn8, List.length_append]; rfl
      subst hn8'
      clear hn8 o8 g8 k8 HO3 HRQ3
      go_wp2_with fail
      refine ⟨⟨k + 1, qs ++ [q], A8, c8, by omega, by simp [HQL.out], by first | rfl | rw [List.length_append], by go_num, ?_, HOW.out, HB8.out⟩, by simp [intOf]; omega⟩
      rw [← HD.out, List.map_append, List.map_singleton, HQ.out]
    · have hke : k = ps.length := by omega
      have HH := hide (show RetSs (ps.map SV.d) w (.returned (.slice Aq qs.length cq)) wr from ⟨Aq, cq, qs, rfl, by rw [HQD.out, hke, List.take_length], HO.out, HB.out⟩)
      subst hke
      clear hb
      go_wp2_with fail
      go_ret
      exact HH.out
set_option maxHeartbeats 2000000 in
theorem ownObject_any (o : OV) (w : World) (hr : RdO w w.heap.size o) (hc : CpO o) :
    Calls Try.prog 210 #[.agg #[.slice o.A o.ps.length o.c, .slice o.Y o.ys.length o.yc]] w (RetO o.d w) := by
  obtain ⟨iY, hiy1, hiy2, hiy3, hiy4⟩ := info_parts CSymbols.info
  have HIY := hide (And.intro hiy1 (And.intro hiy2 (And.intro hiy3 hiy4)))
  clear hiy1 hiy2 hiy3 hiy4
  have HR := hide hr
  have HC := hide hc
  clear hr hc
  have HB := hide (show Below w.heap.size w (((w.alloc (.cells #[.slice o.A o.ps.length o.c, .slice o.Y o.ys.length o.yc] 26)).alloc (.cells #[.slice none 0 0, .slice none 0 0] 26)).alloc (.cells #[.slice o.A o.ps.length o.c, .slice o.Y o.ys.length o.yc] 26)) from (by repeat (first | exact Below.refl _ _ | with_reducible assumption | (refine Below.drew ?_) | (refine Below.drewN ?_ _) | (refine Below.alloc ?_ (by simp; try omega) _) | (refine Below.setCell ?_ (by simp; try omega) _))))
  have HV := hide (((Box.new w 26 #[.slice o.A o.ps.length o.c, .slice o.Y o.ys.length o.yc]).alloc (.cells #[.slice none 0 0, .slice none 0 0] 26)).alloc (.cells #[.slice o.A o.ps.length o.c, .slice o.Y o.ys.length o.yc] 26))
  have HR0 := (Box.new (w.alloc (.cells #[.slice o.A o.ps.length o.c, .slice o.Y o.ys.length o.yc] 26)) 26 #[.slice none 0 0, .slice none 0 0]).alloc (.cells #[.slice o.A o.ps.length o.c, .slice o.Y o.ys.length o.yc] 26)
  have HX0 := Box.new ((w.alloc (.cells #[.slice o.A o.ps.length o.c, .slice o.Y o.ys.length o.yc] 26)).alloc (.cells #[.slice none 0 0, .slice none 0 0] 26)) 26 #[.slice o.A o.ps.length o.c, .slice o.Y o.ys.length o.yc]
  simp only [World.size_alloc] at HR0 HX0
  have HRR := hide HR0
  have HX := hide HX0
  clear HR0 HX0
  have v0 := HV.out.cell 0
  simp only [List.getElem?_toArray, List.getElem?_cons_zero, List.getElem?_cons_succ] at v0
  have hvl := HV.out.lt
  go_enter Try.func210, Try.ntmps210
  go_wp2_with fail
  clear v0 hvl
  generalize ((w.alloc (.cells #[.slice o.A o.ps.length o.c, .slice o.Y o.ys.length o.yc] 26)).alloc (.cells #[.slice none 0 0, .slice none 0 0] 26)).alloc (.cells #[.slice o.A o.ps.length o.c, .slice o.Y o.ys.length o.yc] 26) = w0 at *
  generalize hRq : w.heap.size + 1 = R at *
  generalize hXq : R + 1 = X at *
  have HLT := hide (show w.heap.size < R ∧ R < X from by omega)
  clear hRq hXq
  refine (ownSections_any o.A o.ps o.c w0 ((HR.out.1.below HB.out).more HB.out.size) HC.out.1 HC.out.2.2.2).mono ?_
  rintro e w1 ⟨A1, c1, qs, rfl, hqd, o1, b1⟩
  have HQ := hide hqd
  have HO := hide (o1.down HB.out.size)
  replace HB := hide (HB.out.trans (b1.mono HB.out.size))
  replace HV := hide (HV.out.call b1)
  replace HRR := hide (HRR.out.call b1)
  replace HX := hide (HX.out.call b1)
  clear b1
  clear hqd o1
  have x0 := HX.out.cell 0
  have x1 := HX.out.cell 1
  simp only [List.getElem?_toArray, List.getElem?_cons_zero, List.getElem?_cons_succ] at x0 x1
  have fx := HX.out.frozen 0
  have hxl := HX.out.lt
  have HX1 := hide (show Box (w1.setCell ⟨X, 0, none⟩ (.slice A1 qs.length c1)) X 26 #[.slice A1 qs.length c1, .slice o.Y o.ys.length o.yc] from HX.out.set 0 _)
  have HV1 := hide (HV.out.far (p := ⟨X, 0, none⟩) (by have := HLT.out; show w.heap.size ≠ X; omega) (.slice A1 qs.length c1))
  have HR1 := hide (HRR.out.far (p := ⟨X, 0, none⟩) (by have := HLT.out; show R ≠ X; omega) (.slice A1 qs.length c1))
  have HB1 := hide (HB.out.setCell (p := ⟨X, 0, none⟩) (by have := HLT.out; show w.heap.size ≤ X; omega) (.slice A1 qs.length c1))
  have hneX : ∀ k, ssblk A1 c1 qs k → k ≠ X := by
    rintro k (hk | ⟨p, hp, hk⟩)
    · exact HO.out.1.box HX.out (by decide) k hk
    · exact (HO.out.2.1 p hp).box HX.out (by decide) (by decide) k hk
  have HO1 := hide (show OwnSs (w1.setCell ⟨X, 0, none⟩ (.slice A1 qs.length c1)) w.heap.size A1 c1 qs from HO.out.keep fun k hk => Below.heap_setCell w1 ⟨X, 0, none⟩ _ k (hneX k hk))
  have B2 : Below (w1.setCell ⟨X, 0, none⟩ (.slice A1 qs.length c1)).heap.size (w1.setCell ⟨X, 0, none⟩ (.slice A1 qs.length c1)) ((w1.setCell ⟨X, 0, none⟩ (.slice A1 qs.length c1)).alloc (.cells #[] 69)) := (by repeat (first | exact Below.refl _ _ | with_reducible assumption | (refine Below.drew ?_) | (refine Below.drewN ?_ _) | (refine Below.alloc ?_ (by simp; try omega) _) | (refine Below.setCell ?_ (by simp; try omega) _)))
  clear HX HV HRR HB HO hneX
  replace HB1 := hide (HB1.out.trans (B2.mono HB1.out.size))
  replace HX1 := hide (HX1.out.call B2)
  replace HV1 := hide (HV1.out.call B2)
  replace HR1 := hide (HR1.out.call B2)
  replace HO1 := hide (HO1.out.call B2)
  clear B2
  have v1 := HV1.out.cell 1
  simp only [List.getElem?_toArray, List.getElem?_cons_zero, List.getElem?_cons_succ] at v1
  have hvl := HV1.out.lt
  go_wp2_with (at_builtin; refine wpList_app _ rfl (.tmp 9) (.tmp 11) 24 rfl 69 iY (.agg #[.string ByteArray.empty, .int .i64 0, .int .i64 0, .int .i64 0]) 4 40 Try.underlying24 HIY.out.1 HIY.out.2.1 HIY.out.2.2.1 HIY.out.2.2.2 rfl (by decide) w.heap.size _ 0 0 [] rfl (Row.empty _ _ _ _ _) HB1.out.size o.Y o.ys.length o.yc (cellsOf symbolC o.ys) rfl (HR.out.2.below HB1.out) (cellsOf_len symbolC_len o.ys) HC.out.2.2.1 (one_sym _) ?m1 ?m2 ?_)
  case m1 => have := HC.out.2.1; unfold maxLen; omega
  case m2 => have := HC.out.2.1; omega
  intro A2 n2 c2 w2 hn2 o2 g2 k2
  have hn2' : n2 = o.ys.length := by omega
  clear hn2 x0 x1 fx hxl v1 hvl
  subst hn2'
  generalize (w1.setCell ⟨X, 0, none⟩ (.slice A1 qs.length c1)).alloc (.cells #[] 69) = wb at *
  have b2 : Below wb.heap.size wb w2 := below_tr (Below.refl _ _) g2
  have HF2 := hide (show Row w2 w.heap.size 69 4 A2 o.ys.length c2 (cellsOf symbolC o.ys) from by simpa using o2)
  replace HB1 := hide (HB1.out.trans (b2.mono HB1.out.size))
  replace HX1 := hide (HX1.out.call b2)
  replace HV1 := hide (HV1.out.call b2)
  replace HR1 := hide (HR1.out.call b2)
  replace HO1 := hide (HO1.out.call b2)
  clear b2
  clear o2 g2 k2
  have x0 := HX1.out.cell 0
  have x1 := HX1.out.cell 1
  simp only [List.getElem?_toArray, List.getElem?_cons_zero, List.getElem?_cons_succ] at x0 x1
  have fx := HX1.out.frozen 1
  have hxl := HX1.out.lt
  have HX2 := hide (show Box (w2.setCell ⟨X, 1, none⟩ (.slice A2 o.ys.length c2)) X 26 #[.slice A1 qs.length c1, .slice A2 o.ys.length c2] from HX1.out.set 1 _)
  have HR2 := hide (HR1.out.far (p := ⟨X, 1, none⟩) (by have := HLT.out; show R ≠ X; omega) (.slice A2 o.ys.length c2))
  have HB2 := hide (HB1.out.setCell (p := ⟨X, 1, none⟩) (by have := HLT.out; show w.heap.size ≤ X; omega) (.slice A2 o.ys.length c2))
  have HOO := hide (show OwnO w2 w.heap.size ⟨A1, c1, qs, A2, c2, o.ys⟩ from ⟨HO1.out, HF2.out⟩)
  have HQ2 := hide (show OwnO (w2.setCell ⟨X, 1, none⟩ (.slice A2 o.ys.length c2)) w.heap.size ⟨A1, c1, qs, A2, c2, o.ys⟩ from OwnO.set (a := ⟨X, 1, none⟩) HOO.out (HOO.out.ne_box HX1.out (by decide) (by decide) (by decide) (by decide)) _)
  clear HX1 HV1 HR1 HB1 HO1 HF2 HOO
  have y0 := HX2.out.cell 0
  have y1 := HX2.out.cell 1
  simp only [List.getElem?_toArray, List.getElem?_cons_zero, List.getElem?_cons_succ] at y0 y1
  have hyl := HX2.out.lt
  have r0 := HR2.out.cell 0
  have r1 := HR2.out.cell 1
  simp only [List.getElem?_toArray, List.getElem?_cons_zero, List.getElem?_cons_succ] at r0 r1
  have f0 := HR2.out.frozen 0
  have f1 := HR2.out.frozen 1
  have hrl := HR2.out.lt
  go_wp2_with fail
  have hne := HQ2.out.ne_box HR2.out (by decide) (by decide) (by decide) (by decide)
  have HFIN := CObject.ret_object (Y := R) HQ2.out HB2.out hne (by have := HLT.out; omega)
  have hdd : OV.d ⟨A1, c1, qs, A2, c2, o.ys⟩ = o.d := by simp only [OV.d, HQ.out]
  rw [hdd] at HFIN
  have kk := (HR2.out.set 0 (.slice A1 qs.length c1)).set 1 (.slice A2 o.ys.length c2)
  have k0 := kk.cell 0
  have k1 := kk.cell 1
  simp only [List.setIfInBounds_toArray, List.set_cons_zero, List.set_cons_succ, List.getElem?_toArray, List.getElem?_cons_zero, List.getElem?_cons_succ] at k0 k1
  exact bodyPost_ret (v := OV.v ⟨A1, c1, qs, A2, c2, o.ys⟩) (by simp [results, Try.results210, go_sem, OV.v, k0, k1]) rfl HFIN
set_option maxHeartbeats 2000000 in
theorem ownObjects_any (A : Option Addr) (os : List OV) (c : Nat) (w : World) (hr : RdOs w w.heap.size A os) (hm : os.length ≤ 1048576) (hl : ∀ o ∈ os, CpO o) :
    Calls Try.prog 187 #[.slice A os.length c] w (RetOs (os.map OV.d) w) := by
  obtain ⟨i0, hi1, hi2, hi3, hi4⟩ := info_parts infoO
  have HI := hide (And.intro hi1 (And.intro hi2 (And.intro hi3 hi4)))
  clear hi1 hi2 hi3 hi4
  have HR := hide hr
  have HL := hide hl
  clear hr hl
  have HB := hide (show Below w.heap.size w (w.alloc (.cells #[] 26)) from (by repeat (first | exact Below.refl _ _ | with_reducible assumption | (refine Below.drew ?_) | (refine Below.drewN ?_ _) | (refine Below.alloc ?_ (by simp; try omega) _) | (refine Below.setCell ?_ (by simp; try omega) _))))
  go_enter Try.func187, Try.ntmps187
  go_wp2_with fail
  generalize w.alloc (.cells #[] 26) = w0 at *
  go_loopw [3, 4] (fun s i wi => ∃ (k : Nat) (qs : List OV) (Aq : Option Addr) (cq : Nat), k ≤ os.length ∧ qs.length = k ∧ s = .slice Aq qs.length cq ∧ i = .int .i64 k ∧ qs.map OV.d = (os.take k).map OV.d ∧ OwnOs wi w.heap.size Aq cq qs ∧ Below w.heap.size w wi) (fun _ i _ => os.length - (intOf i).toNat)
  case atStart => exact ⟨0, [], _, 0, Nat.zero_le _, rfl, rfl, rfl, rfl, ⟨Row.empty _ _ _ _ _, (fun p hp => by cases hp), List.Pairwise.nil⟩, HB.out⟩
  case round =>
    clear HB
    obtain ⟨k, qs, Aq, cq, hk, hql, rfl, rfl, hqd, ho, hb⟩ := hrel
    have HO := hide ho
    have HB := hide hb
    have HQL := hide hql
    have HQD := hide hqd
    have hq1 : qs.length ≤ 1048576 := by omega
    clear hqd ho hql
    by_cases hlt : k < os.length
    · obtain ⟨b, off, rfl, hbg, hc⟩ := (HR.out.1.below hb).row objC_len (by decide) hlt
      have hc0 := hc 0 _ rfl
      have hc1 := hc 1 _ rfl
      simp only [Nat.add_zero] at hc0
      have HM := hide (HL.out _ (List.getElem_mem hlt))
      have HRS := hide (((HR.out.2 _ (List.getElem_mem hlt)).below hb).more hb.size)
      have HD := hide (show qs.map OV.d ++ [(os[k]).d] = (os.take (k + 1)).map OV.d by rw [take_succ hlt, List.map_append, HQD.out]; rfl)
      clear hb hc
      generalize os[k] = p at *
      go_wp2_with fail
      refine (ownObject_any p wr HRS.out HM.out).mono ?_
      rintro e w2 ⟨q, rfl, hqd, r2, b2⟩
      have HRQ := hide (r2.down HB.out.size)
      have HNEW := hide (fun j (hj : oblk q j) => (show wr.heap.size ≤ j from (r2.lt j hj).1))
      have HOLD := hide (fun x (hx : x ∈ qs) j (hj : oblk x j) => (show j < wr.heap.size from ((HO.out.2.1 x hx).lt j hj).2))
      have HQ := hide hqd
      have HO2 := hide (HO.out.call b2)
      replace HB := hide (HB.out.trans (b2.mono HB.out.size))
      clear b2
      clear hqd r2 HO HRS hc0 hc1
      have B3 : Below w2.heap.size w2 (w2.alloc (.cells (objC q).toArray 26)) := (by repeat (first | exact Below.refl _ _ | with_reducible assumption | (refine Below.drew ?_) | (refine Below.drewN ?_ _) | (refine Below.alloc ?_ (by simp; try omega) _) | (refine Below.setCell ?_ (by simp; try omega) _)))
      have HO3 := hide (HO2.out.call B3)
      have HRQ3 := hide (HRQ.out.call B3)
      replace HB := hide (HB.out.trans (B3.mono HB.out.size))
      clear B3
      clear HO2 HRQ
      simp only [objC] at HO3 HRQ3 HB ⊢
      simp only [OV.v]
      go_wp2_with (at_builtin; refine wpList_app _ rfl (.tmp 12) (.tmp 18) 51 rfl 26 i0 (.agg #[.slice none 0 0, .slice none 0 0]) 2 48 Try.underlying51 HI.out.1 HI.out.2.1 HI.out.2.2.1 HI.out.2.2.2 rfl (by decide) w.heap.size Aq qs.length cq (cellsOf objC qs) rfl HO3.out.1 HB.out.size (some ⟨w2.heap.size, 0, none⟩) 1 1 (objC q) rfl (rd_lit w2 (objC q).toArray 26 _ rfl) rfl (fun h => by cases h) (one_objC q) ?n1 ?n2 ?_)
      case n1 => unfold maxLen; omega
      case n2 => omega
      intro A8 n8 c8 w8 hn8 o8 g8 k8
      have HOW := hide (OwnOs.snoc HO3.out HRQ3.out HOLD.out HNEW.out hn8 o8 g8)
      have HB8 := hide (HB.out.grown g8 HB.out.size (fun j hj => (HO3.out.1.lt j hj).1))
      have hn8' : n8 = (qs ++ [q]).length := by rw [hn8, List.length_append]; rfl
      subst hn8'
      clear hn8 o8 g8 k8 HO3 HRQ3
      go_wp2_with fail
      refine ⟨⟨k + 1, qs ++ [q], A8, c8, by omega, by simp [HQL.out], by first | rfl | rw [List.length_append], by go_num, ?_, HOW.out, HB8.out⟩, by simp [intOf]; omega⟩
      rw [← HD.out, List.map_append, List.map_singleton, HQ.out]
    · have hke : k = os.length := by omega
      have HH := hide (show RetOs (os.map OV.d) w (.returned (.slice Aq qs.length cq)) wr from ⟨Aq, cq, qs, rfl, by rw [HQD.out, hke, List.take_length], HO.out, HB.out⟩)
      subst hke
      clear hb
      go_wp2_with fail
      go_ret
      exact HH.out
end Go.Proofs.Ytmglgjchemecjaa.COwnL
/- ObjectsValid and isBase, within, aligned. -/
namespace Go.Proofs.Ytmglgjchemecjaa.CValids
set_option maxRecDepth 200000
open Go.ChangeShapes Go.WideShapes Go.ChangeAt Go.RowKit Kit CCode CName CFixups CSymbols PObj BObj PValid CObjValid BList PLink
theorem bad_any (o : OV) (w : World) (hr : RdO w w.heap.size o) (hf : Fit o) :
    Calls Try.prog 192 #[.agg #[.slice o.A o.ps.length o.c, .slice o.Y o.ys.length o.yc]] w (Ret (.bool (!objOk o.d)) w) := by
  have HB := hide (show Below w.heap.size w (w.alloc (.cells #[.slice o.A o.ps.length o.c, .slice o.Y o.ys.length o.yc] 26)) from (by repeat (first | exact Below.refl _ _ | with_reducible assumption | (refine Below.drew ?_) | (refine Below.drewN ?_ _) | (refine Below.alloc ?_ (by simp; try omega) _) | (refine Below.setCell ?_ (by simp; try omega) _))))
  have HX := hide (Box.new w 26 #[.slice o.A o.ps.length o.c, .slice o.Y o.ys.length o.yc])
  have HR := hide hr
  clear hr
  have x0 := HX.out.cell 0
  have x1 := HX.out.cell 1
  simp only [List.getElem?_toArray, List.getElem?_cons_zero, List.getElem?_cons_succ] at x0 x1
  have hxl := HX.out.lt
  go_enter Try.func192, Try.ntmps192
  go_wp2_with fail
  generalize w.alloc (.cells #[.slice o.A o.ps.length o.c, .slice o.Y o.ys.length o.yc] 26) = w0 at *
  refine (objectValid_any o w0 ((HR.out.below HB.out).more HB.out.size) hf).mono ?_
  rintro e w1 ⟨rfl, b1⟩
  replace HB := hide (HB.out.trans (b1.mono HB.out.size))
  clear b1
  clear x0 x1 hxl HX
  go_wp2_with fail
  go_ret
  exact ⟨rfl, HB.out⟩
theorem indexBad_any (A : Option Addr) (os : List OV) (c : Nat) (w : World) (hr : RdOs w w.heap.size A os) (hf : Fits os) :
    Calls Try.prog 212 #[.slice A os.length c, .func (.func 192) #[] #[]] w fun e w' => ∃ r : Int, e = .returned (.int .i64 r) ∧ decide (0 ≤ r) = os.any (fun o => !objOk o.d) ∧ Below w.heap.size w w' := by
  obtain ⟨hm, hfo⟩ := hf
  have HR := hide hr
  have HFT := hide hfo
  clear hr hfo
  go_enter Try.func212, Try.ntmps212
  go_wp2_with fail
  go_loopw [8] (fun i wr => ∃ k : Nat, k ≤ os.length ∧ i = .int .i64 k ∧ (os.take k).any (fun o => !objOk o.d) = false ∧ Below w.heap.size w wr) (fun i _ => os.length - (intOf i).toNat)
  case atStart => exact ⟨0, Nat.zero_le _, rfl, rfl, Below.refl _ _⟩
  case round =>
    obtain ⟨k, hk, rfl, hn, hb⟩ := hrel
    have HB := hide hb
    by_cases hlt : k < os.length
    · obtain ⟨b, off, hA, hbb, hc0, hc1⟩ := (HR.out.below hb).at hlt
      have HS := hide (show (os.take (k + 1)).any (fun o => !objOk o.d) = !objOk os[k].d by rw [take_succ hlt, List.any_append, hn]; simp)
      have HT := hide (show objOk os[k].d = false → os.any (fun o => !objOk o.d) = true from fun h => List.any_eq_true.2 ⟨_, List.getElem_mem hlt, by rw [h]; rfl⟩)
      have HP := hide (bad_any os[k] wr (((HR.out.2 _ (List.getElem_mem hlt)).below hb).more hb.size) (HFT.out _ (List.getElem_mem hlt)))
      clear hb hn
      subst hA
      generalize os[k] = o at *
      have hpred := HP.out
      cases h : objOk o.d
      · have HT' := hide (HT.out h)
        rw [h] at hpred
        clear HT HS h HP
        go_wp2_with fail
        refine hpred.mono ?_
        rintro e w2 ⟨rfl, b2⟩
        have HB' := hide (HB.out.trans (b2.mono HB.out.size))
        clear b2 hc0 hc1 HB
        go_wp2_with fail
        go_ret
        exact ⟨k, rfl, by rw [HT'.out]; simp, HB'.out⟩
      · have HS' := hide (show (os.take (k + 1)).any (fun o => !objOk o.d) = false by rw [HS.out, h]; rfl)
        rw [h] at hpred
        clear HT HS h HP
        go_wp2_with fail
        refine hpred.mono ?_
        rintro e w2 ⟨rfl, b2⟩
        have HB' := hide (HB.out.trans (b2.mono HB.out.size))
        clear b2 hc0 hc1 HB
        go_wp2_with fail
        refine ⟨⟨k + 1, by omega, by go_num, HS'.out, HB'.out⟩, by simp [intOf]; omega⟩
    · have HN := hide (show os.any (fun o => !objOk o.d) = false by rw [← hn, List.take_of_length_le (by omega)])
      clear hb hn
      go_wp2_with fail
      go_ret
      exact ⟨-1, rfl, by rw [HN.out]; rfl, HB.out⟩
theorem containsBad_any (A : Option Addr) (os : List OV) (c : Nat) (w : World) (hr : RdOs w w.heap.size A os) (hf : Fits os) :
    Calls Try.prog 191 #[.slice A os.length c, .func (.func 192) #[] #[]] w (Ret (.bool (os.any (fun o => !objOk o.d))) w) := by
  have HQ := hide (indexBad_any A os c w hr hf)
  clear hr hf
  go_enter Try.func191, Try.ntmps191
  go_wp2_with fail
  refine HQ.out.mono ?_
  rintro e w2 ⟨r, rfl, hr2, b2⟩
  have HR := hide hr2
  have HB := hide b2
  clear hr2 b2
  go_wp2_with fail
  go_ret
  exact ⟨by rw [← HR.out]; rfl, HB.out⟩
theorem all_any (os : List OV) : (!(os.any fun o => !objOk o.d)) = (os.map OV.d).all objOk := by
  rw [List.all_map]
  induction os with
  | nil => rfl
  | cons o os ih =>
    simp only [List.any_cons, List.all_cons, Bool.not_or, Bool.not_not, ih]
    rfl
theorem allValid_any (A : Option Addr) (os : List OV) (c : Nat) (w : World) (hr : RdOs w w.heap.size A os) (hf : Fits os) :
    Calls Try.prog 174 #[.slice A os.length c] w (Ret (.bool ((os.map OV.d).all objOk)) w) := by
  have HQ := hide (containsBad_any A os c w hr hf)
  have HE := hide (all_any os)
  clear hr hf
  generalize (os.map OV.d).all objOk = v at *
  go_enter Try.func174, Try.ntmps174
  go_wp2_with fail
  refine HQ.out.mono ?_
  rintro e w2 ⟨rfl, b2⟩
  have HB := hide b2
  clear b2
  go_wp2_with fail
  go_ret
  exact ⟨by rw [← HE.out]; rfl, HB.out⟩
theorem objectsValid_any (A : Option Addr) (os : List OV) (c : Nat) (w : World) (hr : RdOs w w.heap.size A os) (hf : Fits os) :
    Calls Try.prog 133 #[.slice A os.length c] w (Ret (.bool (objsOk (os.map OV.d))) w) := by
  have HQ := hide (allValid_any A os c w hr hf)
  have hn := hf.n
  clear hr hf
  unfold objsOk
  rw [List.length_map]
  generalize (os.map OV.d).all objOk = v at *
  go_enter Try.func133, Try.ntmps133
  by_cases h4 : os.length ≤ 4
  · have e1 : decide ((os.length : Int) ≤ 4) = true := decide_eq_true (by omega)
    have HV := hide (show (decide (os.length ≤ 4) && v) = v by rw [decide_eq_true h4]; rfl)
    clear h4
    go_wp2_with fail
    refine HQ.out.mono ?_
    rintro e w2 ⟨rfl, b2⟩
    have HB := hide b2
    clear b2
    go_wp2_with fail
    go_ret
    exact ⟨by rw [HV.out]; rfl, HB.out⟩
  · have e1 : decide ((os.length : Int) ≤ 4) = false := decide_eq_false (by omega)
    have HV := hide (show (decide (os.length ≤ 4) && v) = false by rw [decide_eq_false h4]; rfl)
    clear h4
    go_wp2_with fail
    go_ret
    exact ⟨by rw [HV.out]; rfl, Below.refl _ _⟩
theorem isBase_any (b : Int) (w : World) : Calls Try.prog 134 #[.int .i64 b] w (Pure (.bool (baseOk b)) w) := by
  unfold baseOk
  cases h1 : inB b 0 4096
  · have HE := hide (show (decide (0 ≤ b ∧ b ≤ 4096) && decide (b % 8 = 0)) = false by unfold inB at h1; rw [h1]; rfl)
    generalize (decide (0 ≤ b ∧ b ≤ 4096) && decide (b % 8 = 0)) = v at *
    go_enter Try.func134, Try.ntmps134
    go_wp2_with fail
    refine (within_any _ _ _ _).mono ?_
    rintro e w' ⟨rfl, rfl⟩
    rw [h1]
    go_wp2_with fail
    go_ret
    exact ⟨ret_bool HE.out.symm, rfl⟩
  · have hb : 0 ≤ b ∧ b ≤ 4096 := by simpa [inB] using h1
    have HE := hide (show (decide (0 ≤ b ∧ b ≤ 4096) && decide (b % 8 = 0)) = decide (b % 8 = 0) by unfold inB at h1; rw [h1]; rfl)
    have HI := hide h1
    clear h1
    generalize (decide (0 ≤ b ∧ b ≤ 4096) && decide (b % 8 = 0)) = v at *
    by_cases h2 : b % 8 = 0
    · have h2' : (b % 8 == 0) = true := by simpa using h2
      go_enter Try.func134, Try.ntmps134
      go_wp2_with fail
      refine (within_any _ _ _ _).mono ?_
      rintro e w' ⟨rfl, rfl⟩
      rw [HI.out]
      go_wp2_with fail
      go_ret
      exact ⟨ret_bool (by rw [HE.out, decide_eq_true h2]), rfl⟩
    · have h2' : (b % 8 == 0) = false := by simpa using h2
      have HH := hide h2
      clear h2
      go_enter Try.func134, Try.ntmps134
      go_wp2_with fail
      refine (within_any _ _ _ _).mono ?_
      rintro e w' ⟨rfl, rfl⟩
      rw [HI.out]
      go_wp2_with fail
      go_ret
      exact ⟨ret_bool (by rw [HE.out, decide_eq_false HH.out]), rfl⟩
theorem tdiv_al (n q : Int) (hn : 0 ≤ n) (hq : 1 ≤ q) : Int.tdiv (n + q - 1) q * q = al n q := by
  unfold al
  rw [Int.tdiv_eq_ediv_of_nonneg (by omega)]
theorem aligned_any (n q : Int) (w : World) (hn : 0 ≤ n) (hb : n ≤ 1000000) (ht : alignOk q = true) : Calls Try.prog 116 #[.int .i64 n, .int .i64 q] w (Pure (.int .i64 (al n q)) w) := by
  obtain ⟨h1, h2⟩ := al_bd hn ht
  have hq8 : 1 ≤ q ∧ q ≤ 8 := by
    simp only [alignOk, Bool.or_eq_true, decide_eq_true_eq] at ht
    omega
  obtain ⟨q1, q2⟩ := hq8
  have HE := hide (tdiv_al n q hn q1)
  have e3 : 0 ≤ Int.tdiv (n + q - 1) q ∧ Int.tdiv (n + q - 1) q ≤ 1000008 := by
    rw [Int.tdiv_eq_ediv_of_nonneg (by omega)]
    have a1 : 0 ≤ (n + q - 1) / q := Int.ediv_nonneg (by omega) (by omega)
    have a2 := Int.ediv_le_self q (show 0 ≤ n + q - 1 by omega)
    omega
  generalize al n q = m at *
  have hq0 : (q == 0) = false := beq_eq_false_iff_ne.2 (by omega)
  have w1 : IntKind.i64.wrap (n + q) = n + q := IntWalk.i64_in _ (by omega)
  have w2 : IntKind.i64.wrap (n + q - 1) = n + q - 1 := IntWalk.i64_in _ (by omega)
  clear ht
  go_enter Try.func116, Try.ntmps116
  go_wp2_with fail
  go_ret
  refine ⟨?_, rfl⟩
  show Ending.returned (Value.int .i64 (wrap64 ((n + q - 1).tdiv q * q))) = _
  rw [HE.out, show wrap64 m = m from by unfold wrap64; omega]
end Go.Proofs.Ytmglgjchemecjaa.CValids
/- A slice that is made, in a region that draws its order; a box far from a store. -/
namespace Go.Proofs.Ytmglgjchemecjaa.BMake
set_option maxRecDepth 200000
open Go.ChangeShapes Go.WideShapes Go.ChangeAt Go.RowKit Kit CFixups CSymbols PObj BObj
theorem step_make {P : Program} {ops : Array Oper} {o : Oper} {a : Act} {K : Act → World → Prop} {Q : Exit → Act → World → Prop} {E : Prop} {w : World}
    (hg : o.guard = none) (l c : Operand) (t : TypeId) (hop : o.op = Op.makeSlice t l c)
    (base : Nat) (e : TypeId) (i : TypeInfo) (z : Value) (size : Nat) (h1 : P.underlying t = some (.slice e)) (h2 : P.info? e = some i) (h3 : i.zero = some z) (h4 : i.size = size)
    (kl kc : IntKind) (L C : Int) (n : Nat) (hl : a.eval l = .int kl L) (hc : a.eval c = .int kc C) (hL : L = (n : Int)) (hC : C = (n : Int)) (b2 : i.bytes * n ≤ 281474976710656) (b3 : n ≤ maxLen) (b4 : base ≤ w.heap.size)
    (hK : ∀ w', w'.ownsRow base e size (.slice (some ⟨w.heap.size, 0, none⟩) n n) n (madeCells z.cells (n * size)).toList → w.grownBy w' none → K (a.put o.dst (.slice (some ⟨w.heap.size, 0, none⟩) n n)) w') :
    if Region.wanted o (yielded ops a.tmps) = true then Oper.wp P o a w K Q else E := by
  have hw : Region.wanted o (yielded ops a.tmps) = true := by simp [Region.wanted, hg]
  rw [if_pos hw]
  obtain ⟨w', hrun, r1, r2⟩ := run_make_full (P := P) w base t e i z size h1 h2 h3 h4 kl kc n b2 b3 b4
  subst hL
  subst hC
  unfold Oper.wp
  simp [execOp, hop, hl, hc, hrun, Result.andThen]
  exact hK _ r1 r2
theorem box_setFar {w : World} {X g i : Nat} {t : TypeId} {cs : Array Value} {u : Value} (h : Box w X t cs) (hne : X ≠ g) : Box (w.setCell ⟨g, i, none⟩ u) X t cs := (Below.heap_setCell w ⟨g, i, none⟩ u X hne).trans h
end Go.Proofs.Ytmglgjchemecjaa.BMake
/- A layout in memory while it is laid out: the places, where the kinds end. -/
namespace Go.Proofs.Ytmglgjchemecjaa.BLay
set_option maxRecDepth 200000
open Go.ChangeShapes Go.WideShapes Go.ChangeAt Go.RowKit Kit CFixups CSymbols PObj BObj CMarkRows BStore BList PLink
structure LI (w0 : World) (X : Nat) (A : Option Addr) (c : Nat) (rs : List RV) (E : Option Addr) (ec : Nat) (es : List RV) (w : World) : Prop where
  hrs : OwnRs w w0.heap.size A c rs
  hes : OwnRs w w0.heap.size E ec es
  out : Apart A c E ec
  inn : ∀ p ∈ rs, ∀ q ∈ es, Apart p.A p.c q.A q.c
  x : Box w X 101 #[.slice A rs.length c, .slice E es.length ec]
  r : Box w w0.heap.size 101 #[.slice none 0 0, .slice none 0 0]
  b : Below w0.heap.size w0 w
  xr : w0.heap.size < X
theorem map_setP (rs : List RV) (k i : Nat) (v : Int) (hk : k < rs.length) : (rs.set k { rs[k] with zs := rs[k].zs.set i v }).map RV.zs = setP (rs.map RV.zs) k i v := by
  unfold setP
  rw [List.map_set, List.getD_eq_getElem?_getD, List.getElem?_map, List.getElem?_eq_getElem hk]
  rfl
section
variable {w0 w w' : World} {X : Nat} {A E : Option Addr} {c ec : Nat} {rs es : List RV}
theorem LI.call (h : LI w0 X A c rs E ec es w) (hb : Below w.heap.size w w') : LI w0 X A c rs E ec es w' :=
  ⟨h.hrs.call hb, h.hes.call hb, h.out, h.inn, h.x.call hb, h.r.call hb, h.b.trans (hb.mono h.b.size), h.xr⟩
theorem LI.put (h : LI w0 X A c rs E ec es w) {k : Nat} (hk : k < rs.length) {i : Nat} (hi : i < rs[k].zs.length) (v : Int) :
    ∃ g, rs[k].A = some ⟨g, 0, none⟩ ∧ g < w.heap.size ∧ (∀ (Y : Nat) (t : TypeId) (cs : Array Value), Box w Y t cs → 3 ≠ t → Y ≠ g) ∧ (w.frozen? ⟨g, i, none⟩ = false) ∧ (∃ u, w.cell? ⟨g, i, none⟩ = some (.int .i64 u)) ∧ LI w0 X A c (rs.set k { rs[k] with zs := rs[k].zs.set i v }) E ec es (w.setCell ⟨g, i, none⟩ (.int .i64 v)) := by
  obtain ⟨g, hA, hb1, hb2, hbk, ⟨cs, hbox⟩, hf, hu, hown⟩ := h.hrs.put hk hi v
  have hq := h.hrs.2.1 rs[k] (List.getElem_mem hk)
  refine ⟨g, hA, hb2, (fun Y t cs hY ht e => hq.box hY ht g hbk e.symm), hf, hu, hown, ?_, h.out, ?_, ?_, ?_, ?_, h.xr⟩
  · refine h.hes.keep fun j _ _ hj => Below.heap_setCell w ⟨g, i, none⟩ _ j ?_
    rintro rfl
    rcases hj with hj | ⟨q, hq2, hj⟩
    · exact apartT h.hes.1 hq (by decide) _ hj hbk
    · exact h.inn _ (List.getElem_mem hk) q hq2 _ hbk hj
  · intro p hp q hq2
    obtain ⟨j, hj, rfl⟩ := List.getElem_of_mem hp
    rw [List.length_set] at hj
    rw [List.getElem_set]
    by_cases hkj : k = j
    · subst hkj
      rw [if_pos rfl]
      exact h.inn _ (List.getElem_mem hk) q hq2
    · rw [if_neg hkj]
      exact h.inn _ (List.getElem_mem hj) q hq2
  · have hx := BMake.box_setFar (g := g) (i := i) (u := .int .i64 v) h.x (fun e => hq.box h.x (by decide) g hbk e.symm)
    rw [List.length_set]
    exact hx
  · exact BMake.box_setFar (g := g) (i := i) (u := .int .i64 v) h.r (fun e => hq.box h.r (by decide) g hbk e.symm)
  · exact h.b.setCell (p := ⟨g, i, none⟩) hb1 _
/-- A row of an end is put behind the last. -/
theorem LI.snoc (h : LI w0 X A c rs E ec es w) {q : RV} (hq : RwR w w0.heap.size q) {N : Nat} (hold : ∀ p ∈ es, ∀ k, blk p.A p.c = some k → k < N) (holdr : ∀ p ∈ rs, ∀ k, blk p.A p.c = some k → k < N) (hnew : ∀ k, blk q.A q.c = some k → N ≤ k)
    {E' : Option Addr} {n' c' : Nat} (hn : n' = es.length + 1) (row : Row w' w0.heap.size 59 1 E' n' c' (cellsOf rowC es ++ rowC q)) (g : w.grownBy w' (blk E ec)) (hk : ∀ k, blk E' c' = some k → blk E ec = some k ∨ w.heap.size ≤ k) :
    LI w0 X A c rs E' c' (es ++ [q]) (w'.setCell ⟨X, 1, none⟩ (.slice E' n' c')) := by
  have hes := OwnRs.snoc h.hes hq hold hnew hn row g
  have hx := h.x.grown g (h.hes.1.box h.x (by decide))
  have hr := h.r.grown g (h.hes.1.box h.r (by decide))
  have hrs : OwnRs w' w0.heap.size A c rs := ⟨h.hrs.1.grown g (fun j hj e => h.out j hj e), fun p hp => (h.hrs.2.1 p hp).grown g (fun j hj => apartT (h.hrs.2.1 p hp) h.hes.1 (by decide) j hj), h.hrs.2.2⟩
  have hb := h.b.grown g h.b.size (fun j hj => (h.hes.1.lt j hj).1)
  have hX := h.xr
  refine ⟨hrs.set hx (by decide) (by decide) 1 _, hes.set hx (by decide) (by decide) 1 _, ?_, ?_, ?_, BMake.box_setFar hr (by omega), hb.setCell (p := ⟨X, 1, none⟩) (show w0.heap.size ≤ X by omega) _, h.xr⟩
  · intro j h1 h2
    rcases hk j h2 with h3 | h3
    · exact h.out j h1 h3
    · have := (h.hrs.1.lt j h1).2
      omega
  · intro p hp q' hq'
    rcases List.mem_append.1 hq' with hq' | hq'
    · exact h.inn p hp q' hq'
    · have e := List.mem_singleton.1 hq'
      subst e
      intro j h1 h2
      have e1 := holdr p hp j h1
      have e2 := hnew j h2
      omega
  · subst hn
    have := hx.set 1 (.slice E' (es.length + 1) c')
    rw [List.length_append]
    exact this
end
end Go.Proofs.Ytmglgjchemecjaa.BLay
/- layoutOf: where the sections of objects lie. -/
namespace Go.Proofs.Ytmglgjchemecjaa.CLayout
set_option maxRecDepth 200000
open Go.ChangeShapes Go.WideShapes Go.ChangeAt Go.RowKit Kit CCode CName CFixups CSymbols PObj BObj PValid CSecValid CObjValid BStore CMarkRows BMake BList PLink CValids BLay
theorem infoR : (Try.prog.info? 59).map (fun i => (i.zero, i.size, i.bytes)) = some (some (.slice none 0 0), 1, 24) := by kernel_rfl
theorem rdRs_nil (w : World) (B : Nat) (A : Option Addr) : RdRs w B A [] := ⟨Rd.nil _, fun r hr => by cases hr⟩
/-- A layout: the places of all sections, and where the kinds end. -/
def LayV (l : List OD) (base : Int) (w : World) (e : Ending) (w' : World) : Prop :=
  ∃ A c rs E ec es, e = .returned (.tuple #[.agg #[.slice A (rs : List RV).length c, .slice E (es : List RV).length ec], .bool (objsOk l && baseOk base)]) ∧ ((objsOk l && baseOk base) = true → rs.map RV.zs = (lay l base).2 ∧ es.length = 3 ∧ ∃ x, (es.map RV.zs).getD 2 [] = [x, (lay l base).1]) ∧ RdRs w' w'.heap.size A rs ∧ RdRs w' w'.heap.size E es ∧ Below w.heap.size w w'
theorem lay_bad {l : List OD} {base : Int} {w w' : World} (h : (objsOk l && baseOk base) = false) (hb : Below w.heap.size w w') : LayV l base w (.returned (.tuple #[.agg #[.slice none 0 0, .slice none 0 0], .bool false])) w' :=
  ⟨none, 0, [], none, 0, [], by rw [h]; rfl, (fun h' => by rw [h] at h'; cases h'), rdRs_nil _ _ _, rdRs_nil _ _ _, hb⟩
theorem sec_size {many : Int} {d : SD} (h : secOk many d = true) : (0 ≤ secSize d ∧ secSize d ≤ 48) ∧ alignOk d.al = true ∧ 1 ≤ d.kd ∧ d.kd ≤ 3 := by
  rw [secOk, Bool.and_eq_true] at h
  obtain ⟨h1, h2⟩ := h
  simp only [headOk, Bool.and_eq_true, inB, decide_eq_true_eq] at h1
  refine ⟨?_, h1.2, h1.1.2.1, h1.1.2.2⟩
  unfold secSize
  by_cases hk : d.kd = 3
  · rw [if_pos hk] at h2 ⊢
    simp only [blankOk, Bool.and_eq_true, inB, decide_eq_true_eq] at h2
    exact h2.1.1
  · rw [if_neg hk] at h2 ⊢
    simp only [bodyOk, Bool.and_eq_true, decide_eq_true_eq] at h2
    omega
def Shp (l : List OD) (P : List (List Int)) : Prop := P.map List.length = l.map fun d => d.ss.length
theorem shp_set {l : List OD} {P : List (List Int)} (h : Shp l P) (k i : Nat) (v : Int) : Shp l (setP P k i v) := by
  unfold Shp at *
  rw [← h]
  unfold setP
  refine List.ext_getElem? fun j => ?_
  rw [List.getElem?_map, List.getElem?_map, List.getElem?_set]
  by_cases hkj : k = j
  · subst hkj
    rw [if_pos rfl]
    by_cases hk : k < P.length
    · rw [if_pos hk, List.getD_eq_getElem?_getD, List.getElem?_eq_getElem hk]
      simp
    · rw [if_neg hk, List.getElem?_eq_none (by omega)]
  · rw [if_neg hkj]
theorem shp_at {l : List OD} {P : List (List Int)} (h : Shp l P) {k : Nat} (hk : k < l.length) : ∃ hp : k < P.length, P[k].length = l[k].ss.length := by
  have hl : P.length = l.length := by simpa using congrArg List.length h
  refine ⟨by omega, ?_⟩
  have h2 : (P.map List.length)[k]? = (l.map fun d => d.ss.length)[k]? := by rw [h]
  rw [List.getElem?_map, List.getElem?_map, List.getElem?_eq_getElem hk, List.getElem?_eq_getElem (by omega)] at h2
  simpa using h2
theorem shp_zero (l : List OD) : Shp l (zeroP l) := by
  unfold Shp zeroP
  rw [List.map_map]
  exact List.map_congr_left fun d _ => List.length_replicate
/-- The kinds that are left. -/
def kindsS (l : List OD) (ks : List Int) (st : St) : St := ks.foldl (fun st kd => kindS l kd st) st
theorem kinds_drop (l : List OD) {j : Nat} (hj : j < 3) (st : St) : kindsS l (([1, 2, 3] : List Int).drop j) st = kindsS l (([1, 2, 3] : List Int).drop (j + 1)) (foldO (j + 1) 0 l (al st.1 8, st.2)) := by
  have h : j = 0 ∨ j = 1 ∨ j = 2 := by omega
  rcases h with rfl | rfl | rfl <;> rfl
theorem step_bd {kd a : Int} {k i : Nat} {s : SD} {P : List (List Int)} (h1 : 0 ≤ secSize s ∧ secSize s ≤ 48) (h2 : alignOk s.al = true) (h0 : 0 ≤ a) : 0 ≤ (stepS kd k i s (a, P)).1 ∧ (stepS kd k i s (a, P)).1 ≤ a + 60 := by
  obtain ⟨e1, e2⟩ := al_bd h0 h2
  unfold stepS
  by_cases hk : s.kd = kd
  · rw [decide_eq_true hk]
    simp only [cond_true]
    omega
  · rw [decide_eq_false hk]
    simp only [cond_false]
    omega
def Q (j k i : Nat) : Int := 4104 + 2000 * j + 490 * k + 60 * i
set_option maxHeartbeats 4000000 in
theorem layoutOf_any (A : Option Addr) (os : List OV) (c : Nat) (base : Int) (w : World) (hr : RdOs w w.heap.size A os) (hf : Fits os) :
    Calls Try.prog 76 #[.slice A os.length c, .int .i64 base] w (LayV (os.map OV.d) base w) := by
  obtain ⟨i0, hi1, hi2, hi3, hi4⟩ := info_parts infoR
  have HI := hide (And.intro hi1 (And.intro hi2 (And.intro hi3 hi4)))
  clear hi1 hi2 hi3 hi4
  obtain ⟨j0, hj1, hj2, hj3, hj4⟩ := info_parts CInts.info64
  have HJ := hide (And.intro hj1 (And.intro hj2 (And.intro hj3 hj4)))
  clear hj1 hj2 hj3 hj4
  have HR := hide hr
  have HF := hide hf
  clear hr hf
  have HB := hide (show Below w.heap.size w (w.alloc (.cells #[.slice none 0 0, .slice none 0 0] 101)) from (by repeat (first | exact Below.refl _ _ | with_reducible assumption | (refine Below.drew ?_) | (refine Below.drewN ?_ _) | (refine Below.alloc ?_ (by simp; try omega) _) | (refine Below.setCell ?_ (by simp; try omega) _))))
  have HRR := hide (Box.new w 101 #[.slice none 0 0, .slice none 0 0])
  go_enter Try.func76, Try.ntmps76
  go_wp2_with fail
  generalize w.alloc (.cells #[.slice none 0 0, .slice none 0 0] 101) = w0 at *
  refine (objectsValid_any A os c w0 ((HR.out.below HB.out).more HB.out.size) HF.out).mono ?_
  rintro e w1 ⟨rfl, b1⟩
  replace HB := hide (HB.out.trans (b1.mono HB.out.size))
  replace HRR := hide (HRR.out.call b1)
  clear b1
  have HL := hide (fun (w9 : World) => @lay_bad (os.map OV.d) base w w9)
  cases hok : objsOk (os.map OV.d)
  · have HV := hide (show (objsOk (os.map OV.d) && baseOk base) = false by rw [hok]; rfl)
    clear hok
    have y0 := HRR.out.cell 0
    have y1 := HRR.out.cell 1
    simp only [List.getElem?_toArray, List.getElem?_cons_zero, List.getElem?_cons_succ] at y0 y1
    have yf0 := HRR.out.frozen 0
    have yf1 := HRR.out.frozen 1
    have hrl := HRR.out.lt
    have kk := (HRR.out.set 0 (.slice none 0 0)).set 1 (.slice none 0 0)
    have k0 := kk.cell 0
    have k1 := kk.cell 1
    simp only [List.setIfInBounds_toArray, List.set_cons_zero, List.set_cons_succ, List.getElem?_toArray, List.getElem?_cons_zero, List.getElem?_cons_succ] at k0 k1
    clear kk
    have HFB := hide (two_below (Y := w.heap.size) HB.out (Nat.le_refl _) (.slice none 0 0) (.slice none 0 0))
    go_wp2_with fail
    (try simp only [Exit.inBlock, Exit.then])
    exact bodyPost_ret (v := .tuple #[.agg #[.slice none 0 0, .slice none 0 0], .bool false]) (by simp [results, Try.results76, go_sem, k0, k1]) rfl (HL.out _ HV.out HFB.out)
  go_wp2_with fail
  refine (isBase_any base w1).mono ?_
  rintro e w' ⟨rfl, rfl⟩
  cases hbs : baseOk base
  · have HV := hide (show (objsOk (os.map OV.d) && baseOk base) = false by rw [hok, hbs]; rfl)
    clear hok hbs
    have y0 := HRR.out.cell 0
    have y1 := HRR.out.cell 1
    simp only [List.getElem?_toArray, List.getElem?_cons_zero, List.getElem?_cons_succ] at y0 y1
    have yf0 := HRR.out.frozen 0
    have yf1 := HRR.out.frozen 1
    have hrl := HRR.out.lt
    have kk := (HRR.out.set 0 (.slice none 0 0)).set 1 (.slice none 0 0)
    have k0 := kk.cell 0
    have k1 := kk.cell 1
    simp only [List.setIfInBounds_toArray, List.set_cons_zero, List.set_cons_succ, List.getElem?_toArray, List.getElem?_cons_zero, List.getElem?_cons_succ] at k0 k1
    clear kk
    have HFB := hide (two_below (Y := w.heap.size) HB.out (Nat.le_refl _) (.slice none 0 0) (.slice none 0 0))
    go_wp2_with fail
    (try simp only [Exit.inBlock, Exit.then])
    exact bodyPost_ret (v := .tuple #[.agg #[.slice none 0 0, .slice none 0 0], .bool false]) (by simp [results, Try.results76, go_sem, k0, k1]) rfl (HL.out _ HV.out HFB.out)
  clear HL
  have HV := hide (show (objsOk (os.map OV.d) && baseOk base) = true by rw [hok, hbs]; rfl)
  have hb0 : 0 ≤ base ∧ base ≤ 4096 := by
    simp only [baseOk, Bool.and_eq_true, decide_eq_true_eq] at hbs
    exact hbs.1
  obtain ⟨hb1, hb2⟩ := hb0
  have hol : os.length ≤ 4 := by
    simp only [objsOk, Bool.and_eq_true, decide_eq_true_eq, List.length_map] at hok
    exact hok.1
  have HALL := hide (show ∀ o ∈ os, o.ps.length ≤ 8 ∧ ∀ p ∈ o.ps, (0 ≤ secSize p.d ∧ secSize p.d ≤ 48) ∧ alignOk p.d.al = true from fun o ho => by
    simp only [objsOk, Bool.and_eq_true, List.all_eq_true] at hok
    have h := hok.2 _ (List.mem_map_of_mem ho)
    simp only [objOk, Bool.and_eq_true, decide_eq_true_eq, List.all_eq_true] at h
    refine ⟨by simpa [OV.d] using h.1.1.1, fun p hp => ?_⟩
    have hs := sec_size (h.1.2 p.d (List.mem_map_of_mem hp))
    exact ⟨hs.1, hs.2.1⟩)
  clear hok hbs
  go_wp2_with fail
  have B2 : Below w1.heap.size w1 (w1.alloc (.cells #[.slice none 0 0, .slice none 0 0] 101)) := (by repeat (first | exact Below.refl _ _ | with_reducible assumption | (refine Below.drew ?_) | (refine Below.drewN ?_ _) | (refine Below.alloc ?_ (by simp; try omega) _) | (refine Below.setCell ?_ (by simp; try omega) _)))
  have HX := hide (Box.new w1 101 #[.slice none 0 0, .slice none 0 0])
  have hRX : w.heap.size < w1.heap.size := HRR.out.lt
  replace HB := hide (HB.out.trans (B2.mono HB.out.size))
  replace HRR := hide (HRR.out.call B2)
  clear B2
  generalize w1.alloc (.cells #[.slice none 0 0, .slice none 0 0] 101) = w2 at *
  generalize w1.heap.size = X at *
  go_loopw [29] (fun i wi => ∃ (k : Nat) (A1 : Option Addr) (c1 : Nat) (rs : List RV), k ≤ os.length ∧ i = .int .i64 k ∧ rs.length = k ∧ rs.map RV.zs = (zeroP (os.map OV.d)).take k ∧ OwnRs wi w.heap.size A1 c1 rs ∧ Box wi X 101 #[.slice A1 k c1, .slice none 0 0] ∧ Box wi w.heap.size 101 #[.slice none 0 0, .slice none 0 0] ∧ Below w.heap.size w wi) (fun i _ => os.length - (intOf i).toNat)
  case atStart => exact ⟨0, none, 0, [], Nat.zero_le _, rfl, rfl, rfl, ⟨Row.empty _ _ _ _ _, (fun p hp => by cases hp), List.Pairwise.nil⟩, HX.out, HRR.out, HB.out⟩
  case round =>
    clear HX HRR HB
    obtain ⟨k, A1, c1, rs, hk, rfl, hrl, hrz, hown, hx, hrr, hb⟩ := hrel
    have HX := hide hx
    have HRR := hide hrr
    have HB := hide hb
    have HRS := hide hown
    have HRZ := hide hrz
    clear hrz hown hx hrr
    subst hrl
    by_cases hlt : rs.length < os.length
    · obtain ⟨bb, off, hA, hbb, hc0, hc1⟩ := (HR.out.below hb).at hlt
      have HZN := hide (show (zeroP (os.map OV.d)).take (rs.length + 1) = (zeroP (os.map OV.d)).take rs.length ++ [List.replicate os[rs.length].ps.length 0] from by
        rw [take_succ (by simpa [zeroP] using hlt)]
        simp [zeroP, OV.d])
      have hpl := (HALL.out _ (List.getElem_mem hlt)).1
      clear hb
      subst hA
      generalize os[rs.length] = o at *
      have x0 := HX.out.cell 0
      simp only [List.getElem?_toArray, List.getElem?_cons_zero, List.getElem?_cons_succ] at x0
      have hxl := HX.out.lt
      go_wp2_with fail
      have B1 : Below wr.heap.size wr (wr.alloc (.cells #[.slice o.A o.ps.length o.c, .slice o.Y o.ys.length o.yc] 26)) := (by repeat (first | exact Below.refl _ _ | with_reducible assumption | (refine Below.drew ?_) | (refine Below.drewN ?_ _) | (refine Below.alloc ?_ (by simp; try omega) _) | (refine Below.setCell ?_ (by simp; try omega) _)))
      have HO := hide (Box.new wr 26 #[.slice o.A o.ps.length o.c, .slice o.Y o.ys.length o.yc])
      replace HB := hide (HB.out.trans (B1.mono HB.out.size))
      replace HX := hide (HX.out.call B1)
      replace HRR := hide (HRR.out.call B1)
      replace HRS := hide (HRS.out.call B1)
      clear B1
      have hXO : X < wr.heap.size := hxl
      generalize wr.alloc (.cells #[.slice o.A o.ps.length o.c, .slice o.Y o.ys.length o.yc] 26) = wa at *
      generalize wr.heap.size = Z at *
      clear hc0 hc1 x0 hxl
      have x0 := HX.out.cell 0
      simp only [List.getElem?_toArray, List.getElem?_cons_zero, List.getElem?_cons_succ] at x0
      have y0 := HO.out.cell 0
      simp only [List.getElem?_toArray, List.getElem?_cons_zero, List.getElem?_cons_succ] at y0
      have hZw := HO.out.lt
      have hWB := HB.out.size
      have Z0 : wa.cell? ⟨X, 0, none⟩ = some (.slice A1 rs.length c1) ∧ wa.cell? ⟨Z, 0, none⟩ = some (.slice o.A o.ps.length o.c) := ⟨x0, y0⟩
      refine Reg.startT (fun W => W.cell? ⟨X, 0, none⟩ = some (.slice A1 rs.length c1) ∧ W.cell? ⟨Z, 0, none⟩ = some (.slice o.A o.ps.length o.c)) (fun j => j == 9) (by kernel_rfl) ?_
      have hHeld : wa.drew.cell? ⟨X, 0, none⟩ = some (.slice A1 rs.length c1) ∧ wa.drew.cell? ⟨Z, 0, none⟩ = some (.slice o.A o.ps.length o.c) := Z0
      clear Z0 x0 y0
      refine Reg.takeT (i := 0) (v := ?_) rfl (by kernel_rfl) (by kernel_rfl) (by kernel_rfl) (by kernel_rfl) (fun _ _ _ h => h) (Or.inl ⟨by rfl, ?_⟩) (by assumption) ?_
      rotate_left 1
      focus (intro w hSw; (try dsimp only at hSw); go_simp; (try with_reducible rfl))
      try simp only [List.getElem_toArray, List.getElem_cons_succ, List.getElem_cons_zero, Act.put, List.setIfInBounds_toArray, List.set_cons_zero, List.set_cons_succ]
      refine Reg.takeT (i := 1) (v := ?_) rfl (by kernel_rfl) (by kernel_rfl) (by kernel_rfl) (by kernel_rfl) (fun _ _ _ h => h) (Or.inl ⟨by rfl, ?_⟩) (by assumption) ?_
      rotate_left 1
      focus (intro w hSw; (try dsimp only at hSw); go_simp; (try with_reducible rfl))
      try simp only [List.getElem_toArray, List.getElem_cons_succ, List.getElem_cons_zero, Act.put, List.setIfInBounds_toArray, List.set_cons_zero, List.set_cons_succ]
      refine Reg.takeT (i := 2) (v := ?_) rfl (by kernel_rfl) (by kernel_rfl) (by kernel_rfl) (by kernel_rfl) (fun _ _ _ h => h) (Or.inl ⟨by rfl, ?_⟩) (by assumption) ?_
      rotate_left 1
      focus (intro w hSw; (try dsimp only at hSw); go_simp; (try with_reducible rfl))
      try simp only [List.getElem_toArray, List.getElem_cons_succ, List.getElem_cons_zero, Act.put, List.setIfInBounds_toArray, List.set_cons_zero, List.set_cons_succ]
      refine Reg.takeT (i := 3) (v := ?_) rfl (by kernel_rfl) (by kernel_rfl) (by kernel_rfl) (by kernel_rfl) (fun _ _ _ h => h) (Or.inl ⟨by rfl, ?_⟩) (by assumption) ?_
      rotate_left 1
      focus (intro w hSw; (try dsimp only at hSw); go_simp; (try with_reducible rfl))
      try simp only [List.getElem_toArray, List.getElem_cons_succ, List.getElem_cons_zero, Act.put, List.setIfInBounds_toArray, List.set_cons_zero, List.set_cons_succ]
      refine Reg.takeT (i := 4) (v := ?_) rfl (by kernel_rfl) (by kernel_rfl) (by kernel_rfl) (by kernel_rfl) (fun _ _ _ h => h) (Or.inl ⟨by rfl, ?_⟩) (by assumption) ?_
      rotate_left 1
      focus (intro w hSw; (try dsimp only at hSw); go_simp; (try with_reducible rfl))
      try simp only [List.getElem_toArray, List.getElem_cons_succ, List.getElem_cons_zero, Act.put, List.setIfInBounds_toArray, List.set_cons_zero, List.set_cons_succ]
      have bd : Below wa.heap.size wa wa.drew := below_dr (Below.refl _ _)
      replace HB := hide (HB.out.trans (bd.mono HB.out.size))
      replace HX := hide (HX.out.call bd)
      replace HRR := hide (HRR.out.call bd)
      replace HRS := hide (HRS.out.call bd)
      replace HO := hide (HO.out.call bd)
      clear bd
      generalize wa.drew = wd at *
      clear hZw hWB
      have hZw := HO.out.lt
      refine Reg.oneT (i := 5) rfl (by kernel_rfl) (fun K hK => ?_)
      refine step_make rfl _ _ _ rfl w.heap.size 3 j0 (.int .i64 0) 1 Try.underlying59 HJ.out.1 HJ.out.2.1 HJ.out.2.2.1 .i64 .i64 _ _ o.ps.length rfl rfl rfl rfl (by rw [HJ.out.2.2.2]; omega) (by unfold maxLen; omega) HB.out.size ?_
      intro w5 r1 r2
      have b5 : Below wd.heap.size wd w5 := below_grown (Below.refl _ _) r2 (Nat.le_refl _) (fun k hk => by cases hk)
      have hXd : X < wd.heap.size := HX.out.lt
      replace hHeld : w5.cell? ⟨X, 0, none⟩ = some (.slice A1 rs.length c1) ∧ w5.cell? ⟨Z, 0, none⟩ = some (.slice o.A o.ps.length o.c) := ⟨(b5.cell (p := ⟨X, 0, none⟩) hXd).trans hHeld.1, (b5.cell (p := ⟨Z, 0, none⟩) hZw).trans hHeld.2⟩
      refine hK.out _ _ hHeld ?_
      clear hK K
      try simp only [List.getElem_toArray, List.getElem_cons_succ, List.getElem_cons_zero, Act.put, List.setIfInBounds_toArray, List.set_cons_zero, List.set_cons_succ]
      have HNW := hide (show RwR w5 w.heap.size ⟨some ⟨wd.heap.size, 0, none⟩, o.ps.length, List.replicate o.ps.length 0⟩ from by
        rw [zero_cells] at r1
        refine .inr ?_
        simpa using r1)
      have HOLD := hide (HRS.out.lt)
      have hlow : w.heap.size ≤ wd.heap.size := HB.out.size
      clear r1 r2
      replace HB := hide (HB.out.trans (b5.mono HB.out.size))
      replace HX := hide (HX.out.call b5)
      replace HRR := hide (HRR.out.call b5)
      replace HRS := hide (HRS.out.call b5)
      replace HO := hide (HO.out.call b5)
      clear b5
      generalize wd.heap.size = M at *
      refine Reg.oneT (i := 6) rfl (by kernel_rfl) (fun K hK => ?_)
      go_simp
      have b6 : Below w5.heap.size w5 (w5.alloc (.cells #[.slice (some ⟨M, 0, none⟩) o.ps.length o.ps.length] 59)) := (by repeat (first | exact Below.refl _ _ | with_reducible assumption | (refine Below.drew ?_) | (refine Below.drewN ?_ _) | (refine Below.alloc ?_ (by simp; try omega) _) | (refine Below.setCell ?_ (by simp; try omega) _)))
      have hXd := HX.out.lt
      have hZw := HO.out.lt
      replace hHeld := And.intro ((b6.cell (p := ⟨X, 0, none⟩) hXd).trans hHeld.1) ((b6.cell (p := ⟨Z, 0, none⟩) hZw).trans hHeld.2)
      refine hK.out _ _ hHeld ?_
      clear hK K
      try simp only [List.getElem_toArray, List.getElem_cons_succ, List.getElem_cons_zero, Act.put, List.setIfInBounds_toArray, List.set_cons_zero, List.set_cons_succ]
      have HLIT := hide (rd_lit w5 #[.slice (some ⟨M, 0, none⟩) o.ps.length o.ps.length] 59 _ rfl)
      replace HNW := hide (show RwR (w5.alloc (.cells #[.slice (some ⟨M, 0, none⟩) o.ps.length o.ps.length] 59)) w.heap.size ⟨some ⟨M, 0, none⟩, o.ps.length, List.replicate o.ps.length 0⟩ from HNW.out.call b6)
      replace HB := hide (HB.out.trans (b6.mono HB.out.size))
      replace HX := hide (HX.out.call b6)
      replace HRR := hide (HRR.out.call b6)
      replace HRS := hide (HRS.out.call b6)
      replace HO := hide (HO.out.call b6)
      clear b6
      generalize w5.alloc (.cells #[.slice (some ⟨M, 0, none⟩) o.ps.length o.ps.length] 59) = w6 at *
      generalize w5.heap.size = L at *
      have HOWN := hide HRS.out
      refine Reg.oneT (i := 7) rfl (by kernel_rfl) (fun K hK => ?_)
      refine step_app (by rfl) _ _ 99 rfl 59 i0 (.slice none 0 0) 1 24 Try.underlying99 HI.out.1 HI.out.2.1 HI.out.2.2.1 HI.out.2.2.2 rfl (by decide) w.heap.size A1 rs.length c1 (cellsOf rowC rs) (by rfl) HRS.out.1 HB.out.size (some ⟨L, 0, none⟩) 1 1 [.slice (some ⟨M, 0, none⟩) o.ps.length o.ps.length] (by rfl) HLIT.out rfl (fun h => by cases h) ?o1 (by unfold maxLen; omega) (by omega) ?_
      case o1 =>
        intro u hu
        obtain rfl := List.mem_singleton.1 hu
        rfl
      intro A2 n2 c2 w7 hn o7 g7 k7
      have HNEW := hide (OwnRs.snoc (N := M) HRS.out (q := ⟨some ⟨M, 0, none⟩, o.ps.length, List.replicate o.ps.length 0⟩) HNW.out HOLD.out (fun k hk => by
        unfold blk at hk
        split at hk
        · cases hk
        · injection hk with hk
          exact Nat.le_of_eq hk) hn (by simpa [rowC] using o7) g7)
      replace HX := hide (HX.out.grown g7 (HRS.out.1.box HX.out (by decide)))
      replace HRR := hide (HRR.out.grown g7 (HRS.out.1.box HRR.out (by decide)))
      replace HO := hide (HO.out.grown g7 (HRS.out.1.box HO.out (by decide)))
      replace HB := hide (HB.out.grown g7 HB.out.size (fun j hj => (HRS.out.1.lt j hj).1))
      clear o7 g7 k7 HRS HOWN HLIT hHeld HNW
      refine hK.out _ _ ⟨HX.out.cell 0, HO.out.cell 0⟩ ?_
      clear hK K
      try simp only [List.getElem_toArray, List.getElem_cons_succ, List.getElem_cons_zero, Act.put, List.setIfInBounds_toArray, List.set_cons_zero, List.set_cons_succ]
      have hHeld : w7.cell? ⟨X, 0, none⟩ = some (.slice A1 rs.length c1) ∧ w7.cell? ⟨Z, 0, none⟩ = some (.slice o.A o.ps.length o.c) := ⟨HX.out.cell 0, HO.out.cell 0⟩
      refine Reg.takeT (i := 8) (v := ?_) rfl (by kernel_rfl) (by kernel_rfl) (by kernel_rfl) (by kernel_rfl) (fun _ _ _ h => h) (Or.inl ⟨by rfl, ?_⟩) (by assumption) ?_
      rotate_left 1
      focus (intro w hSw; (try dsimp only at hSw); go_simp; (try with_reducible rfl))
      try simp only [List.getElem_toArray, List.getElem_cons_succ, List.getElem_cons_zero, Act.put, List.setIfInBounds_toArray, List.set_cons_zero, List.set_cons_succ]
      clear hHeld
      have x0 := HX.out.cell 0
      simp only [List.getElem?_toArray, List.getElem?_cons_zero, List.getElem?_cons_succ] at x0
      have xf0 := HX.out.frozen 0
      have hxl := HX.out.lt
      refine Reg.lastT (i := 9) rfl (by kernel_rfl) (by rfl) (fun K hK => ?_)
      go_simp
      refine hK.out _ _ ?_
      clear hK K
      try simp only [List.getElem_toArray, List.getElem_cons_succ, List.getElem_cons_zero, Act.put, List.setIfInBounds_toArray, List.set_cons_zero, List.set_cons_succ]
      have HNE2 := hide (HNEW.out.set HX.out (by decide) (by decide) 0 (.slice A2 n2 c2))
      have HXE := hide (HX.out.set 0 (.slice A2 n2 c2))
      have HRE := hide (show Box (w7.setCell ⟨X, 0, none⟩ (.slice A2 n2 c2)) w.heap.size 101 #[.slice none 0 0, .slice none 0 0] from BMake.box_setFar HRR.out (by omega))
      have HBE := hide (HB.out.setCell (p := ⟨X, 0, none⟩) (show w.heap.size ≤ X by omega) (.slice A2 n2 c2))
      clear HNEW HX HRR HB x0 xf0 hxl HO
      subst hn
      refine Reg.doneT (by kernel_rfl) ?_ _
      go_wp2_with fail
      refine ⟨⟨rs.length + 1, A2, c2, rs ++ [⟨some ⟨M, 0, none⟩, o.ps.length, List.replicate o.ps.length 0⟩], by omega, by go_num, by simp, by rw [HZN.out, List.map_append, HRZ.out]; rfl, HNE2.out, HXE.out, HRE.out, HBE.out⟩, by simp [intOf]; omega⟩
    · have hrl : rs.length = os.length := by omega
      have hrz : rs.map RV.zs = zeroP (os.map OV.d) := by rw [HRZ.out, hrl, List.take_of_length_le (by simp [zeroP])]
      have HLI := hide (show LI w X A1 c1 rs none 0 [] wr from ⟨HRS.out, ⟨Row.empty _ _ _ _ _, (fun p hp => by cases hp), List.Pairwise.nil⟩, (fun k h1 h2 => by cases h2), (fun p hp q hq => by cases hq), HX.out, HRR.out, HB.out, hRX⟩)
      have HSH := hide (show Shp (os.map OV.d) (rs.map RV.zs) from by rw [hrz]; exact shp_zero _)
      have HLAY := hide (show lay (os.map OV.d) base = kindsS (os.map OV.d) (([1, 2, 3] : List Int).drop 0) (base, rs.map RV.zs) from by rw [hrz]; rfl)
      clear HRS HX HRR HB HRZ hrz hlt hb
      rw [hrl]
      clear hrl hk
      generalize hLL : os.map OV.d = l at *
      have HLL := hide hLL
      clear hLL
      go_wp2_with fail
      go_loopw [10, 7] (fun kd at_ wi => ∃ (j : Nat) (a : Int) (rs : List RV) (E : Option Addr) (ec : Nat) (es : List RV), j ≤ 3 ∧ kd = .int .i64 ((j : Int) + 1) ∧ at_ = .int .i64 a ∧ lay l base = kindsS l (([1, 2, 3] : List Int).drop j) (a, rs.map RV.zs) ∧ Shp l (rs.map RV.zs) ∧ 0 ≤ a ∧ a ≤ 4096 + 2000 * j ∧ es.length = j ∧ (j = 0 ∨ ∃ x, (es.map RV.zs).getD (j - 1) [] = [x, a]) ∧ LI w X A1 c1 rs E ec es wi) (fun kd _ _ => 4 - (intOf kd).toNat)
      case atStart => exact ⟨0, base, rs, none, 0, [], Nat.zero_le _, rfl, rfl, HLAY.out, HSH.out, hb1, by omega, rfl, .inl rfl, HLI.out⟩
      case round =>
        clear HLAY HSH HLI
        obtain ⟨j, a, rs, E, ec, es, hj, rfl, rfl, hlay, hsh, ha0, ha1, hes, hend, hli⟩ := hrel
        have HLI := hide hli
        have HSH := hide hsh
        have HEND := hide hend
        have HES := hide hes
        have hes3 : es.length ≤ 3 := by omega
        clear hsh hend hes
        by_cases hj3 : j < 3
        · have HLAY := hide (show lay l base = kindsS l (([1, 2, 3] : List Int).drop (j + 1)) (foldO ((j : Int) + 1) 0 l (al a 8, rs.map RV.zs)) from hlay.trans (kinds_drop l hj3 _))
          have e3 : decide ((j : Int) + 1 ≤ 3) = true := decide_eq_true (by omega)
          clear hlay hli
          go_wp2_with fail
          refine (aligned_any a 8 wr ha0 (by omega) (by decide)).mono ?_
          rintro e w' ⟨rfl, rfl⟩
          obtain ⟨g1, g2⟩ := al_bd ha0 (show alignOk 8 = true by decide)
          generalize al a 8 = b at *
          generalize hT : foldO ((j : Int) + 1) 0 l (b, rs.map RV.zs) = T at *
          have HT := hide (show T = foldO ((j : Int) + 1) 0 (l.drop 0) (b, rs.map RV.zs) from hT.symm)
          clear hT e3
          go_wp2_with fail
          go_loopw [52, 7] (fun i at_ wi => ∃ (k : Nat) (d : Int) (rs : List RV), k ≤ os.length ∧ i = .int .i64 k ∧ at_ = .int .i64 d ∧ T = foldO ((j : Int) + 1) k (l.drop k) (d, rs.map RV.zs) ∧ Shp l (rs.map RV.zs) ∧ 0 ≤ d ∧ d ≤ 4104 + 2000 * j + 490 * k ∧ LI w X A1 c1 rs E ec es wi) (fun i _ _ => os.length - (intOf i).toNat)
          case atStart => exact ⟨0, b, rs, Nat.zero_le _, rfl, rfl, HT.out, HSH.out, by omega, by omega, HLI.out⟩
          case round =>
            clear HT HSH HLI
            obtain ⟨k, d, rs, hk, rfl, rfl, ht, hsh, hd0, hd1, hli⟩ := hrel
            have HLI := hide hli
            have HSH := hide hsh
            by_cases hlt : k < os.length
            · obtain ⟨bb, off, hA, hbb, hc0, hc1⟩ := (HR.out.below hli.b).at hlt
              have hll : k < l.length := by rw [← HLL.out, List.length_map]; exact hlt
              have HT := hide (ht.trans (foldO_drop hll k _))
              have HPS := hide (show l[k].ss = os[k].ps.map SV.d from by
                have := HLL.out
                subst this
                simp [OV.d])
              have HSP := hide (show ∀ P : List (List Int), Shp l P → ∃ hp : k < P.length, P[k].length = os[k].ps.length from fun P hP => by
                obtain ⟨h1, h2⟩ := shp_at hP hll
                refine ⟨h1, ?_⟩
                rw [h2, HPS.out, List.length_map])
              have HAO := hide (HALL.out _ (List.getElem_mem hlt))
              have hpl := HAO.out.1
              have HRO := hide (HR.out.2 _ (List.getElem_mem hlt)).1
              have HFO := hide (HF.out.o _ (List.getElem_mem hlt)).p
              clear hli ht hsh
              subst hA
              rw [HPS.out] at HT
              clear HPS
              generalize os[k] = o at *
              go_wp2_with fail
              have B1 : Below wr.heap.size wr (wr.alloc (.cells #[.slice o.A o.ps.length o.c, .slice o.Y o.ys.length o.yc] 26)) := (by repeat (first | exact Below.refl _ _ | with_reducible assumption | (refine Below.drew ?_) | (refine Below.drewN ?_ _) | (refine Below.alloc ?_ (by simp; try omega) _) | (refine Below.setCell ?_ (by simp; try omega) _)))
              have HO := hide (Box.new wr 26 #[.slice o.A o.ps.length o.c, .slice o.Y o.ys.length o.yc])
              replace HLI := hide (HLI.out.call B1)
              clear B1
              generalize wr.alloc (.cells #[.slice o.A o.ps.length o.c, .slice o.Y o.ys.length o.yc] 26) = wa at *
              generalize wr.heap.size = Z at *
              clear hc0 hc1
              have y0 := HO.out.cell 0
              simp only [List.getElem?_toArray, List.getElem?_cons_zero, List.getElem?_cons_succ] at y0
              have hol := HO.out.lt
              go_wp2_with fail
              clear y0 hol HO
              generalize hU : foldS ((j : Int) + 1) k 0 (o.ps.map SV.d) (d, rs.map RV.zs) = U at *
              have HU := hide (show U = foldS ((j : Int) + 1) k 0 ((o.ps.map SV.d).drop 0) (d, rs.map RV.zs) from hU.symm)
              clear hU
              go_loopw [60, 7] (fun i at_ wi => ∃ (m : Nat) (f : Int) (rs : List RV), m ≤ o.ps.length ∧ i = .int .i64 m ∧ at_ = .int .i64 f ∧ U = foldS ((j : Int) + 1) k m ((o.ps.map SV.d).drop m) (f, rs.map RV.zs) ∧ Shp l (rs.map RV.zs) ∧ 0 ≤ f ∧ f ≤ 4104 + 2000 * j + 490 * k + 60 * m ∧ LI w X A1 c1 rs E ec es wi) (fun i _ _ => o.ps.length - (intOf i).toNat)
              case atStart => exact ⟨0, d, rs, Nat.zero_le _, rfl, rfl, HU.out, HSH.out, by omega, by omega, HLI.out⟩
              case round =>
                clear HU HSH HLI
                obtain ⟨m, f, rs, hm, rfl, rfl, hu, hsh, hf0, hf1, hli⟩ := hrel
                have HLI := hide hli
                have HSH := hide hsh
                by_cases hlm : m < o.ps.length
                · obtain ⟨b2, off2, hPA, hb2, hc⟩ := (HRO.out.1.below hli.b).row secC_len (by decide) hlm
                  have hc0 := hc 0 _ rfl
                  have hc1 := hc 1 _ rfl
                  have hc2 := hc 2 _ rfl
                  have hc3 := hc 3 _ rfl
                  have hc4 := hc 4 _ rfl
                  have hc5 := hc 5 _ rfl
                  simp only [Nat.add_zero] at hc0
                  have HU := hide (hu.trans (foldS_drop (show m < (o.ps.map SV.d).length by simpa using hlm) m _))
                  have HSZ := hide (HAO.out.2 _ (List.getElem_mem hlm))
                  have hzl := (HFO.out _ (List.getElem_mem hlm)).2.1
                  have HRS := hide (step_bd (kd := (j : Int) + 1) (k := k) (i := m) (P := rs.map RV.zs) HSZ.out.1 HSZ.out.2 hf0)
                  clear hli hu hc
                  rw [List.getElem_map] at HU
                  rw [hPA]
                  clear hPA
                  generalize o.ps[m] = p at *
                  have B1 : Below wr.heap.size wr (wr.alloc (.cells #[.string p.nm, .int .i64 p.kd, .int .i64 p.al, .slice p.A p.zs.length p.c, .int .i64 p.sz, .slice p.F p.fs.length p.fc] 73)) := (by repeat (first | exact Below.refl _ _ | with_reducible assumption | (refine Below.drew ?_) | (refine Below.drewN ?_ _) | (refine Below.alloc ?_ (by simp; try omega) _) | (refine Below.setCell ?_ (by simp; try omega) _)))
                  replace HLI := hide (HLI.out.call B1)
                  have HS := hide (Box.new wr 73 #[.string p.nm, .int .i64 p.kd, .int .i64 p.al, .slice p.A p.zs.length p.c, .int .i64 p.sz, .slice p.F p.fs.length p.fc])
                  by_cases hkd : p.kd = (j : Int) + 1
                  · have e1 : (p.kd == (j : Int) + 1) = true := beq_iff_eq.2 hkd
                    have HKD := hide hkd
                    have HU2 := hide (show U = foldS ((j : Int) + 1) k (m + 1) ((o.ps.map SV.d).drop (m + 1)) (al f p.al + secSize p.d, setP (rs.map RV.zs) k m (al f p.al)) from by
                      rw [HU.out]
                      unfold stepS
                      rw [show decide (p.d.kd = (j : Int) + 1) = true from decide_eq_true hkd]
                      rfl)
                    clear hkd HU
                    go_wp2_with fail
                    clear e1 hc0 hc1 hc2 hc3 hc4 hc5 B1
                    generalize wr.alloc (.cells #[.string p.nm, .int .i64 p.kd, .int .i64 p.al, .slice p.A p.zs.length p.c, .int .i64 p.sz, .slice p.F p.fs.length p.fc] 73) = wa at *
                    generalize wr.heap.size = S at *
                    refine (aligned_any f p.al wa hf0 (by omega) HSZ.out.2).mono ?_
                    rintro e w' ⟨rfl, rfl⟩
                    obtain ⟨g1, g2⟩ := al_bd hf0 (show alignOk p.al = true from HSZ.out.2)
                    obtain ⟨q1, q2⟩ := HSZ.out.1
                    generalize al f p.al = v at *
                    obtain ⟨hp1, hp2⟩ := HSP.out _ HSH.out
                    rw [List.length_map] at hp1
                    rw [List.getElem_map] at hp2
                    obtain ⟨g, hgA, hgl, hfar, hfz, ⟨u, hcu⟩, hli2⟩ := HLI.out.put hp1 (i := m) (by omega) v
                    obtain ⟨pb, poff, hPP, hpb, hrow⟩ := HLI.out.hrs.rd.at hp1
                    have HLI2 := hide hli2
                    have HS2 := hide (BMake.box_setFar (g := g) (i := m) (u := .int .i64 v) HS.out (hfar _ _ _ HS.out (by decide)))
                    have HMP := hide (map_setP rs k m v hp1)
                    have HSH2 := hide (shp_set HSH.out k m v)
                    have x0 := HLI.out.x.cell 0
                    simp only [List.getElem?_toArray, List.getElem?_cons_zero] at x0
                    have hxl := HLI.out.x.lt
                    rw [hPP] at x0
                    rw [hgA, hp2] at hrow
                    have hmi : m < o.ps.length := hlm
                    clear hli2 hgA hp2 hPP HLI hfar HSH
                    generalize rs.set k { rs[k] with zs := rs[k].zs.set m v } = rs2 at *
                    have s0 := HS2.out.cell 0
                    have s1 := HS2.out.cell 1
                    have s2 := HS2.out.cell 2
                    have s3 := HS2.out.cell 3
                    have s4 := HS2.out.cell 4
                    have s5 := HS2.out.cell 5
                    simp only [List.getElem?_toArray, List.getElem?_cons_zero, List.getElem?_cons_succ] at s0 s1 s2 s3 s4 s5
                    have hsl := HS2.out.lt
                    go_wp2_with fail
                    refine (sectionSize_any p _ (by unfold maxLen; omega)).mono ?_
                    rintro e w3 ⟨rfl, b3⟩
                    replace HLI2 := hide (HLI2.out.call b3)
                    have hwr : IntKind.i64.wrap (v + secSize p.d) = v + secSize p.d := IntWalk.i64_in _ (by omega)
                    generalize secSize p.d = z at *
                    clear s0 s1 s2 s3 s4 s5 hsl HS2 b3 hrow x0 hxl hcu hfz
                    go_wp2_with fail
                    refine ⟨⟨m + 1, v + z, rs2, by omega, by go_num, rfl, by rw [HMP.out]; exact HU2.out, by rw [HMP.out]; exact HSH2.out, by omega, by omega, HLI2.out⟩, by simp [intOf]; omega⟩
                  · have e1 : (p.kd == (j : Int) + 1) = false := beq_eq_false_iff_ne.2 hkd
                    have HU2 := hide (show U = foldS ((j : Int) + 1) k (m + 1) ((o.ps.map SV.d).drop (m + 1)) (f, rs.map RV.zs) from by
                      rw [HU.out]
                      unfold stepS
                      rw [show decide (p.d.kd = (j : Int) + 1) = false from decide_eq_false hkd]
                      rfl)
                    clear hkd HU
                    go_wp2_with fail
                    refine ⟨⟨m + 1, f, rs, by omega, by go_num, rfl, HU2.out, HSH.out, hf0, by omega, HLI.out⟩, by simp [intOf]; omega⟩
                · obtain rfl : m = o.ps.length := by omega
                  have HT2 := hide (show T = foldO ((j : Int) + 1) (k + 1) (l.drop (k + 1)) (f, rs.map RV.zs) from by
                    have hu2 : U = (f, rs.map RV.zs) := by
                      rw [hu, List.drop_of_length_le (by simp)]
                      rfl
                    rw [HT.out, hu2])
                  clear hu hli hsh HT
                  go_wp2_with fail
                  refine ⟨⟨k + 1, f, rs, by omega, by go_num, rfl, HT2.out, HSH.out, hf0, by omega, HLI.out⟩, by simp [intOf]; omega⟩
            · obtain rfl : k = os.length := by omega
              have HT2 := hide (show T = (d, rs.map RV.zs) from by
                rw [ht, List.drop_of_length_le (by rw [← HLL.out]; simp)]
                rfl)
              have HLW := hide (show ∀ p ∈ es, ∀ k, blk p.A p.c = some k → k < wr.heap.size from hli.hes.lt)
              have HLR := hide (show ∀ p ∈ rs, ∀ k, blk p.A p.c = some k → k < wr.heap.size from hli.hrs.lt)
              have hlow : w.heap.size ≤ wr.heap.size := hli.b.size
              clear ht hli hsh
              have b1 : Below wr.heap.size wr (wr.alloc (.cells #[.int .i64 b, .int .i64 d] 3)) := (by repeat (first | exact Below.refl _ _ | with_reducible assumption | (refine Below.drew ?_) | (refine Below.drewN ?_ _) | (refine Below.alloc ?_ (by simp; try omega) _) | (refine Below.setCell ?_ (by simp; try omega) _)))
              have b2 : Below (wr.alloc (.cells #[.int .i64 b, .int .i64 d] 3)).heap.size (wr.alloc (.cells #[.int .i64 b, .int .i64 d] 3)) ((wr.alloc (.cells #[.int .i64 b, .int .i64 d] 3)).alloc (.cells #[.slice (some ⟨wr.heap.size, 0, none⟩) 2 2] 59)) := (by repeat (first | exact Below.refl _ _ | with_reducible assumption | (refine Below.drew ?_) | (refine Below.drewN ?_ _) | (refine Below.alloc ?_ (by simp; try omega) _) | (refine Below.setCell ?_ (by simp; try omega) _)))
              have HNW := hide (show RwR ((wr.alloc (.cells #[.int .i64 b, .int .i64 d] 3)).alloc (.cells #[.slice (some ⟨wr.heap.size, 0, none⟩) 2 2] 59)) w.heap.size ⟨some ⟨wr.heap.size, 0, none⟩, 2, [b, d]⟩ from by
                have h := World.ownsRow_lit (base := wr.heap.size) (e := 3) (size := 1) wr #[.int .i64 b, .int .i64 d] 2 (Nat.le_refl _) (by unfold maxLen; omega) rfl
                exact ((Row.own h).down hlow).call b2)
              have HLIT := hide (rd_lit (wr.alloc (.cells #[.int .i64 b, .int .i64 d] 3)) #[.slice (some ⟨wr.heap.size, 0, none⟩) 2 2] 59 _ rfl)
              have x1 := HLI.out.x.cell 1
              simp only [List.getElem?_toArray, List.getElem?_cons_zero, List.getElem?_cons_succ] at x1
              have hxl := HLI.out.x.lt
              have HLI2 := hide ((HLI.out.call b1).call b2)
              clear HLI b1 b2
              go_wp2_with (at_builtin; refine wpList_app ((wr.alloc (.cells #[.int .i64 b, .int .i64 d] 3)).alloc (.cells #[.slice (some ⟨wr.heap.size, 0, none⟩) 2 2] 59)) rfl (.tmp 88) (.tmp 92) 99 rfl 59 i0 (.slice none 0 0) 1 24 Try.underlying99 HI.out.1 HI.out.2.1 HI.out.2.2.1 HI.out.2.2.2 rfl (by decide) w.heap.size E es.length ec (cellsOf rowC es) rfl HLI2.out.hes.1 ?hb (some ⟨wr.heap.size + 1, 0, none⟩) 1 1 [.slice (some ⟨wr.heap.size, 0, none⟩) 2 2] rfl (by have h := HLIT.out; rw [World.size_alloc] at h; exact h) rfl (fun h => by cases h) ?o1 ?n1 ?n2 ?_)
              case hb =>
                have h := HLI2.out.b.size
                simp only [World.size_alloc] at h
                exact h
              case o1 => rfl
              case n1 => unfold maxLen; omega
              case n2 => omega
              intro E2 n2 c2 w3 hn o3 g3 k3
              have HXB := hide (HLI2.out.x.grown g3 (HLI2.out.hes.1.box HLI2.out.x (by decide)))
              have HNE := hide (LI.snoc (N := wr.heap.size) HLI2.out HNW.out HLW.out HLR.out (fun k hk => by
                unfold blk at hk
                split at hk
                · cases hk
                · injection hk with hk
                  exact Nat.le_of_eq hk) hn (by simpa [rowC] using o3) g3 (fun k hk => by have h := k3 k hk; simpa using h))
              subst hn
              clear o3 g3 k3 x1 hxl HLI2 HNW HLIT
              have x1 := HXB.out.cell 1
              simp only [List.getElem?_toArray, List.getElem?_cons_zero, List.getElem?_cons_succ] at x1
              have hxl := HXB.out.lt
              have xf1 := HXB.out.frozen 1
              have hwk : IntKind.i64.wrap ((j : Int) + 1 + 1) = (j : Int) + 1 + 1 := IntWalk.i64_in _ (by omega)
              go_wp2_with fail
              go_roundw
              case rel => exact ⟨j + 1, d, rs, E2, c2, es ++ [⟨some ⟨wr.heap.size, 0, none⟩, 2, [b, d]⟩], by omega, by simp, rfl, by rw [HLAY.out, HT2.out], HSH.out, hd0, by omega, by simp [HES.out], .inr ⟨b, by
                rw [List.map_append, List.getD_eq_getElem?_getD, List.getElem?_append_right (by have := HES.out; simp; omega)]
                simp [HES.out]⟩, HNE.out⟩
              case measure => simp [intOf]; omega
        · obtain rfl : j = 3 := by omega
          have HL3 := hide (show lay l base = (a, rs.map RV.zs) from hlay)
          have HE3 := hide (show ∃ x, (es.map RV.zs).getD 2 [] = [x, a] from by
            rcases HEND.out with h | h
            · cases h
            · exact h)
          clear hlay HEND hli
          have x0 := HLI.out.x.cell 0
          have x1 := HLI.out.x.cell 1
          have y0 := HLI.out.r.cell 0
          have y1 := HLI.out.r.cell 1
          have yf0 := HLI.out.r.frozen 0
          have yf1 := HLI.out.r.frozen 1
          have kk := (HLI.out.r.set 0 (.slice A1 rs.length c1)).set 1 (.slice E es.length ec)
          have k0 := kk.cell 0
          have k1 := kk.cell 1
          simp only [List.setIfInBounds_toArray, List.set_cons_zero, List.set_cons_succ, List.getElem?_toArray, List.getElem?_cons_zero, List.getElem?_cons_succ] at k0 k1 x0 x1 y0 y1
          clear kk
          have hxl := HLI.out.x.lt
          have hrl := HLI.out.r.lt
          have HFIN := hide (show LayV l base w (.returned (.tuple #[.agg #[.slice A1 rs.length c1, .slice E es.length ec], .bool true])) ((wr.setCell ⟨w.heap.size, 0, none⟩ (.slice A1 rs.length c1)).setCell ⟨w.heap.size, 1, none⟩ (.slice E es.length ec)) from by
            have r1 := HLI.out.r.set 0 (.slice A1 rs.length c1)
            refine ⟨A1, c1, rs, E, ec, es, by rw [HV.out], fun _ => ⟨by rw [HL3.out], HES.out, by rw [HL3.out]; exact HE3.out⟩, ?_, ?_, two_below (Y := w.heap.size) HLI.out.b (Nat.le_refl _) _ _⟩
            · exact ((HLI.out.hrs.set HLI.out.r (by decide) (by decide) 0 _).set r1 (by decide) (by decide) 1 _).rd
            · exact ((HLI.out.hes.set HLI.out.r (by decide) (by decide) 0 _).set r1 (by decide) (by decide) 1 _).rd)
          go_wp2_with fail
          (try simp only [Exit.inBlock, Exit.then])
          exact bodyPost_ret (v := .tuple #[.agg #[.slice A1 rs.length c1, .slice E es.length ec], .bool true]) (by simp [results, Try.results76, go_sem, k0, k1]) rfl HFIN.out
end Go.Proofs.Ytmglgjchemecjaa.CLayout
