/- The reference's l4Copy: an object in new memory. -/
import Derived.Test.YtmglgjchemecjaaCObject2
import Derived.Test.YtmglgjchemecjaaCObjValid
namespace Go.Proofs.Ytmglgjchemecjaa.CCopyS
set_option maxRecDepth 200000
open Go.ChangeShapes Go.WideShapes Go.ChangeAt Go.RowKit Kit CFixups CSymbols PObj BObj CMarkRows CObjValid
/-- A slice that is nil has no room. -/
structure Nils (o : OV) : Prop where
  y : o.Y = none → o.yc = 0
  p : ∀ p ∈ o.ps, (p.A = none → p.c = 0) ∧ (p.F = none → p.fc = 0)
theorem nils_own {o : OV} {w : World} {base : Nat} (h : OwnO w base o) : Nils o := ⟨h.2.nil, fun p hp => ⟨(h.1.2.1 p hp).1.nil, (h.1.2.1 p hp).2.nil⟩⟩
theorem infoY : (Try.prog.info? 69).map (fun i => (i.zero, i.size, i.bytes)) = some (some (.agg #[.string ByteArray.empty, .int .i64 0, .int .i64 0, .int .i64 0]), 4, 40) := CSymbols.info
theorem one_sym (ys : List YD) : ∀ u ∈ cellsOf symbolC ys, u.oneCell' = true := by
  intro u hu
  obtain ⟨z, _, hz⟩ := List.mem_flatMap.1 hu
  simp only [symbolC, List.mem_cons, List.not_mem_nil, or_false] at hz
  rcases hz with rfl | rfl | rfl | rfl <;> rfl
theorem one_fix (ys : List FD) : ∀ u ∈ cellsOf fixupC ys, u.oneCell' = true := by
  intro u hu
  obtain ⟨z, _, hz⟩ := List.mem_flatMap.1 hu
  simp only [fixupC, List.mem_cons, List.not_mem_nil, or_false] at hz
  rcases hz with rfl | rfl | rfl | rfl <;> rfl
theorem one_ints (k : IntKind) (zs : List Int) : ∀ u ∈ ints k zs, u.oneCell' = true := by
  intro u hu
  obtain ⟨z, _, rfl⟩ := List.mem_map.1 hu
  rfl
set_option maxHeartbeats 2000000 in
theorem l4Copy_any (o : OV) (w : World) (hr : RdO w w.heap.size o) (hf : Fit o) (hn : Nils o) (hs : o.ps.length ≤ 100 ∧ o.ys.length ≤ 100) :
    Calls Try.prog 62 #[.agg #[.slice o.A o.ps.length o.c, .slice o.Y o.ys.length o.yc]] w (RetO o.d w) := by
  obtain ⟨iy, hy1, hy2, hy3, hy4⟩ := info_parts infoY
  obtain ⟨ix, hx1, hx2, hx3, hx4⟩ := info_parts BObj.info
  obtain ⟨i8, h81, h82, h83, h84⟩ := info_parts CBytes.info8
  obtain ⟨iF, hF1, hF2, hF3, hF4⟩ := info_parts CFixups.info
  have HIY := hide (And.intro hy1 (And.intro hy2 (And.intro hy3 hy4)))
  have HIX := hide (And.intro hx1 (And.intro hx2 (And.intro hx3 hx4)))
  have HI8 := hide (And.intro h81 (And.intro h82 (And.intro h83 h84)))
  have HIF := hide (And.intro hF1 (And.intro hF2 (And.intro hF3 hF4)))
  clear hy1 hy2 hy3 hy4 hx1 hx2 hx3 hx4 h81 h82 h83 h84 hF1 hF2 hF3 hF4
  obtain ⟨A, c, ps, Y, yc, ys⟩ := o
  obtain ⟨np, ny, cy, hp, hy⟩ := hf
  obtain ⟨ny0, np0⟩ := hn
  obtain ⟨ss1, ss2⟩ := hs
  simp only at np ny cy hp hy ny0 np0 ss1 ss2 ⊢
  have HR := hide hr
  have HL := hide (And.intro hp np0)
  have HNY := hide ny0
  clear hr hp hy np0 ny0
  have B0 : Below w.heap.size w (((w.alloc (.cells #[.slice A ps.length c, .slice Y ys.length yc] 26)).alloc (.cells #[.slice none 0 0, .slice none 0 0] 26)).alloc (.cells #[] 69)) := (by repeat (first | exact Below.refl _ _ | with_reducible assumption | (refine Below.drew ?_) | (refine Below.drewN ?_ _) | (refine Below.alloc ?_ (by simp; try omega) _) | (refine Below.setCell ?_ (by simp; try omega) _)))
  have HV0 := hide (((Box.new w 26 #[.slice A ps.length c, .slice Y ys.length yc]).alloc (.cells #[.slice none 0 0, .slice none 0 0] 26)).alloc (.cells #[] 69))
  have HR0 := (Box.new (w.alloc (.cells #[.slice A ps.length c, .slice Y ys.length yc] 26)) 26 #[.slice none 0 0, .slice none 0 0]).alloc (.cells #[] 69)
  simp only [World.size_alloc] at HR0
  have HRR0 := hide HR0
  clear HR0
  have HB0 := hide B0
  have hVR : w.heap.size < w.heap.size + 1 := by omega
  clear B0
  go_enter Try.func62, Try.ntmps62
  go_wp2_with (at_builtin; refine wpList_app _ rfl (.tmp 6) (.tmp 8) 24 rfl 69 iy (.agg #[.string ByteArray.empty, .int .i64 0, .int .i64 0, .int .i64 0]) 4 40 Try.underlying24 HIY.out.1 HIY.out.2.1 HIY.out.2.2.1 HIY.out.2.2.2 rfl (by decide) w.heap.size (some ⟨w.heap.size + 1 + 1, 0, none⟩) 0 0 [] rfl (Row.empty _ _ _ _ _) HB0.out.size Y ys.length yc (cellsOf symbolC ys) rfl (HR.out.2.below HB0.out) (cellsOf_len symbolC_len ys) HNY.out (one_sym ys) ?n1 ?n2 ?_)
  case n1 => unfold maxLen; omega
  case n2 => omega
  intro A1 n1 c1 w1 hn1 o1 g1 k1
  subst hn1
  have HB1 := hide (HB0.out.grown g1 HB0.out.size (fun k hk => by cases hk))
  have HV1 := hide (HV0.out.grown g1 (fun k hk => by cases hk))
  have HRR1 := hide (HRR0.out.grown g1 (fun k hk => by cases hk))
  have HY1 := hide o1
  have hR0 := HRR1.out.lt
  clear o1 g1 k1 HB0 HV0 HRR0
  go_wp2_with fail
  have HX2 := hide (Box.new w1 26 #[.slice none 0 0, .slice A1 ys.length c1])
  have HB2 := hide (HB1.out.alloc HB1.out.size (.cells #[.slice none 0 0, .slice A1 ys.length c1] 26))
  have HV2 := hide (HV1.out.alloc (.cells #[.slice none 0 0, .slice A1 ys.length c1] 26))
  have HRR2 := hide (HRR1.out.alloc (.cells #[.slice none 0 0, .slice A1 ys.length c1] 26))
  have HY2 := hide (HY1.out.alloc (.cells #[.slice none 0 0, .slice A1 ys.length c1] 26))
  clear HB1 HV1 HRR1 HY1
  generalize w1.alloc (.cells #[.slice none 0 0, .slice A1 ys.length c1] 26) = w2 at *
  have hRX : w.heap.size + 1 < w1.heap.size := hR0
  have hVX : w.heap.size < w1.heap.size := by omega
  generalize w1.heap.size = X at *
  generalize w.heap.size + 1 = R at *
  go_loopw [4] (fun i wi => ∃ (k : Nat) (qs : List SV) (Aq : Option Addr) (cq : Nat), k ≤ ps.length ∧ qs.length = k ∧ i = .int .i64 k ∧ qs.map SV.d = (ps.take k).map SV.d ∧ OwnSs wi w.heap.size Aq cq qs ∧ Box wi X 26 #[.slice Aq k cq, .slice A1 ys.length c1] ∧ Row wi w.heap.size 69 4 A1 ys.length c1 (cellsOf symbolC ys) ∧ Box wi w.heap.size 26 #[.slice A ps.length c, .slice Y ys.length yc] ∧ Box wi R 26 #[.slice none 0 0, .slice none 0 0] ∧ Below w.heap.size w wi) (fun i _ => ps.length - (intOf i).toNat)
  case atStart => exact ⟨0, [], none, 0, Nat.zero_le _, rfl, rfl, rfl, ⟨Row.empty _ _ _ _ _, (fun p hp => by cases hp), List.Pairwise.nil⟩, HX2.out, HY2.out, HV2.out, HRR2.out, HB2.out⟩
  case round =>
    clear HX2 HY2 HV2 HRR2 HB2
    obtain ⟨k, qs, Aq, cq, hk, hql, rfl, hqd, ho, hx, hrow, hv, hrr, hb⟩ := hrel
    have HO := hide ho
    have HX := hide hx
    have HY := hide hrow
    have HV := hide hv
    have HRR := hide hrr
    have HB := hide hb
    have HQ := hide (And.intro hql hqd)
    have v0 := hv.cell 0
    have x0 := hx.cell 0
    have x1 := hx.cell 1
    simp only [List.getElem?_toArray, List.getElem?_cons_zero, List.getElem?_cons_succ] at v0 x0 x1
    have hvl := hv.lt
    have hxl := hx.lt
    by_cases hlt : k < ps.length
    · obtain ⟨b, off, hA, hbg, hc⟩ := (HR.out.1.1.below hb).row secC_len (by decide) hlt
      have hbw : b < wr.heap.size := Nat.lt_of_lt_of_le hbg hb.size
      have hc0 := hc 0 _ rfl
      have hc1 := hc 1 _ rfl
      have hc2 := hc 2 _ rfl
      have hc3 := hc 3 _ rfl
      have hc4 := hc 4 _ rfl
      have hc5 := hc 5 _ rfl
      simp only [Nat.add_zero] at hc0
      have HM := hide (HL.out.1 _ (List.getElem_mem hlt))
      have HN := hide (HL.out.2 _ (List.getElem_mem hlt))
      have HRS := hide (HR.out.1.2 _ (List.getElem_mem hlt))
      have HD := hide (show (qs ++ [ps[k]]).map SV.d = (ps.take (k + 1)).map SV.d by rw [take_succ hlt, List.map_append, List.map_append, hqd])
      clear hql hqd ho hx hrow hv hrr hb hc
      subst hA
      generalize ps[k] = p at *
      have hmz := HM.out.2.1
      have hmf := HM.out.2.2
      have Ba : Below wr.heap.size wr ((wr.alloc (.cells #[.string p.nm, .int .i64 p.kd, .int .i64 p.al, .slice p.A p.zs.length p.c, .int .i64 p.sz, .slice p.F p.fs.length p.fc] 73)).alloc (.cells #[] 5)) := (by repeat (first | exact Below.refl _ _ | with_reducible assumption | (refine Below.drew ?_) | (refine Below.drewN ?_ _) | (refine Below.alloc ?_ (by simp; try omega) _) | (refine Below.setCell ?_ (by simp; try omega) _)))
      have HBa := hide (HB.out.trans (Ba.mono HB.out.size))
      have HSa := hide ((Box.new wr 73 #[.string p.nm, .int .i64 p.kd, .int .i64 p.al, .slice p.A p.zs.length p.c, .int .i64 p.sz, .slice p.F p.fs.length p.fc]).alloc (.cells #[] 5))
      have hsa : wr.heap.size ≤ ((wr.alloc (.cells #[.string p.nm, .int .i64 p.kd, .int .i64 p.al, .slice p.A p.zs.length p.c, .int .i64 p.sz, .slice p.F p.fs.length p.fc] 73)).alloc (.cells #[] 5)).heap.size := Ba.size
      have HBA := hide Ba
      clear Ba
      go_wp2_with (at_builtin; refine wpList_app _ rfl (.tmp 23) (.tmp 25) 22 rfl 5 i8 (.int .u8 0) 1 1 Try.underlying22 HI8.out.1 HI8.out.2.1 HI8.out.2.2.1 HI8.out.2.2.2 rfl (by decide) w.heap.size (some ⟨wr.heap.size + 1, 0, none⟩) 0 0 [] rfl (Row.empty _ _ _ _ _) HBa.out.size p.A p.zs.length p.c (ints .u8 p.zs) rfl (HRS.out.1.below HBa.out) (by simp) HN.out.1 (one_ints _ _) ?n1 ?n2 ?_)
      case n1 => unfold maxLen; omega
      case n2 => omega
      intro A2 n2 c2 w2 hn2 o2 g2 k2
      subst hn2
      clear hc0 hc1 hc2 hc3 hc4 hc5 v0 x0 x1
      have b2 := (Below.refl _ _).grown g2 (Nat.le_refl _) (fun k h => by cases h)
      have HBt := hide (HBA.out.trans (b2.mono HBA.out.size))
      have HS2 := hide (HSa.out.call b2)
      have HA2 := hide (And.intro o2 (fun k (hk : blk A2 c2 = some k) => (show wr.heap.size ≤ k from by
        rcases k2 k hk with h | h
        · cases h
        · omega)))
      generalize ((wr.alloc (.cells #[.string p.nm, .int .i64 p.kd, .int .i64 p.al, .slice p.A p.zs.length p.c, .int .i64 p.sz, .slice p.F p.fs.length p.fc] 73)).alloc (.cells #[] 5)) = wa at *
      clear o2 g2 k2 b2 HSa HBA HBa
      have s3 := HS2.out.cell 3
      have s5 := HS2.out.cell 5
      have sf3 := HS2.out.frozen 3
      simp only [List.getElem?_toArray, List.getElem?_cons_zero, List.getElem?_cons_succ] at s3 s5
      have hSl := HS2.out.lt
      have HB4 := hide (show Below wr.heap.size wr ((w2.setCell ⟨wr.heap.size, 3, none⟩ (.slice A2 p.zs.length c2)).alloc (.cells #[] 77)) from (HBt.out.setCell (p := ⟨wr.heap.size, 3, none⟩) (Nat.le_refl _) _).alloc (HBt.out.setCell (p := ⟨wr.heap.size, 3, none⟩) (Nat.le_refl _) (.slice A2 p.zs.length c2)).size _)
      have HW4 := hide (HB.out.trans (HB4.out.mono HB.out.size))
      have HS4 := hide ((show Box (w2.setCell ⟨wr.heap.size, 3, none⟩ (.slice A2 p.zs.length c2)) wr.heap.size 73 #[.string p.nm, .int .i64 p.kd, .int .i64 p.al, .slice A2 p.zs.length c2, .int .i64 p.sz, .slice p.F p.fs.length p.fc] from HS2.out.set 3 _).alloc (.cells #[] 77))
      have HA4 := hide ((HA2.out.1.set (a := ⟨wr.heap.size, 3, none⟩) (HA2.out.1.box HS2.out (by decide)) (.slice A2 p.zs.length c2)).alloc (.cells #[] 77))
      have HA2k := hide HA2.out.2
      clear HS2 HA2 HBt
      have hz4 : (w2.setCell ⟨wr.heap.size, 3, none⟩ (.slice A2 p.zs.length c2)).heap.size = w2.heap.size := by simp [World.setCell]
      go_wp2_with (at_builtin; refine wpList_app _ rfl (.tmp 28) (.tmp 30) 71 rfl 77 iF (.agg #[.int .i64 0, .int .i64 0, .int .i64 0, .int .i64 0]) 4 32 Try.underlying71 HIF.out.1 HIF.out.2.1 HIF.out.2.2.1 HIF.out.2.2.2 rfl (by decide) w.heap.size (some ⟨w2.heap.size, 0, none⟩) 0 0 [] rfl (Row.empty _ _ _ _ _) HW4.out.size p.F p.fs.length p.fc (cellsOf fixupC p.fs) rfl (HRS.out.2.below HW4.out) (cellsOf_len fixupC_len p.fs) HN.out.2 (one_fix _) ?n1 ?n2 ?_)
      case n1 => unfold maxLen; omega
      case n2 => omega
      intro A5 n5 c5 w5 hn5 o5 g5 k5
      subst hn5
      have b5 := (Below.refl _ _).grown g5 (Nat.le_refl _) (fun k h => by cases h)
      have HBt := hide (HB4.out.trans (b5.mono HB4.out.size))
      have HS5 := hide (HS4.out.call b5)
      have HA5 := hide (HA4.out.call b5)
      have hle4 := HBt.out.size
      have hs24 : wr.heap.size ≤ w2.heap.size := Nat.le_of_lt hSl
      have HF5 := hide (And.intro o5 (fun k (hk : blk A5 c5 = some k) => (show wr.heap.size ≤ k from by
        rcases k5 k hk with h | h
        · cases h
        · omega)))
      clear o5 g5 k5 b5 s3 s5 sf3 HS4 HA4 HB4 HW4
      have s0 := HS5.out.cell 0
      have s1 := HS5.out.cell 1
      have s2 := HS5.out.cell 2
      have s3 := HS5.out.cell 3
      have s4 := HS5.out.cell 4
      have s5 := HS5.out.cell 5
      have sf5 := HS5.out.frozen 5
      simp only [List.getElem?_toArray, List.getElem?_cons_zero, List.getElem?_cons_succ] at s0 s1 s2 s3 s4 s5
      have hSl5 := HS5.out.lt
      -- the world behind the stores into the section's variable
      have HB6 := hide (show Below wr.heap.size wr (w5.setCell ⟨wr.heap.size, 5, none⟩ (.slice A5 p.fs.length c5)) from HBt.out.setCell (p := ⟨wr.heap.size, 5, none⟩) (Nat.le_refl _) _)
      have HA6 := hide (HA5.out.set (a := ⟨wr.heap.size, 5, none⟩) (HA5.out.box HS5.out (by decide)) (.slice A5 p.fs.length c5))
      have HF6 := hide (HF5.out.1.set (a := ⟨wr.heap.size, 5, none⟩) (HF5.out.1.box HS5.out (by decide)) (.slice A5 p.fs.length c5))
      have HFk := hide HF5.out.2
      have HX6 := hide (HX.out.call HB6.out)
      have x0 := HX6.out.cell 0
      have x1 := HX6.out.cell 1
      have xf0 := HX6.out.frozen 0
      simp only [List.getElem?_toArray, List.getElem?_cons_zero, List.getElem?_cons_succ] at x0 x1
      have HSS6 := hide (show Box (w5.setCell ⟨wr.heap.size, 5, none⟩ (.slice A5 p.fs.length c5)) wr.heap.size 73 #[.string p.nm, .int .i64 p.kd, .int .i64 p.al, .slice A2 p.zs.length c2, .int .i64 p.sz, .slice A5 p.fs.length c5] from HS5.out.set 5 _)
      have u0 := HSS6.out.cell 0
      have u1 := HSS6.out.cell 1
      have u2 := HSS6.out.cell 2
      have u3 := HSS6.out.cell 3
      have u4 := HSS6.out.cell 4
      have u5 := HSS6.out.cell 5
      simp only [List.getElem?_toArray, List.getElem?_cons_zero, List.getElem?_cons_succ] at u0 u1 u2 u3 u4 u5
      have HO6 := hide (HO.out.call HB6.out)
      have HY6 := hide (HY.out.call HB6.out)
      have HV6 := hide (HV.out.call HB6.out)
      have HRR6 := hide (HRR.out.call HB6.out)
      have HBW6 := hide (HB.out.trans (HB6.out.mono HB.out.size))
      have HQlt := hide (fun x (hx : x ∈ qs) k (hk : sblk x k) => (show k < wr.heap.size from ((HO.out.2.1 x hx).lt k hk).2))
      have hcl : (cellsOf secC qs).length = k * 6 := by rw [cellsOf_len secC_len, HQ.out.1]
      clear HA5 HF5 HX HO HY HV HRR HB HBt HS5
      have hz6 : (w5.setCell ⟨wr.heap.size, 5, none⟩ (.slice A5 p.fs.length c5)).heap.size = w5.heap.size := by simp [World.setCell]
      have HSEC := hide (show Row ((w5.setCell ⟨wr.heap.size, 5, none⟩ (.slice A5 p.fs.length c5)).alloc (.cells #[.string p.nm, .int .i64 p.kd, .int .i64 p.al, .slice A2 p.zs.length c2, .int .i64 p.sz, .slice A5 p.fs.length c5] 73)) w.heap.size 73 6 Aq k cq (cellsOf secC qs) from by
        have h := (HO6.out.1).alloc (.cells #[.string p.nm, .int .i64 p.kd, .int .i64 p.al, .slice A2 p.zs.length c2, .int .i64 p.sz, .slice A5 p.fs.length c5] 73)
        rw [HQ.out.1] at h
        exact h)
      have HW7 := hide (HBW6.out.alloc HBW6.out.size (.cells #[.string p.nm, .int .i64 p.kd, .int .i64 p.al, .slice A2 p.zs.length c2, .int .i64 p.sz, .slice A5 p.fs.length c5] 73))
      go_wp2_with (at_builtin; refine wpList_app _ rfl (.tmp 34) (.tmp 36) 23 rfl 73 ix (.agg #[.string ByteArray.empty, .int .i64 0, .int .i64 0, .slice none 0 0, .int .i64 0, .slice none 0 0]) 6 88 Try.underlying23 HIX.out.1 HIX.out.2.1 HIX.out.2.2.1 HIX.out.2.2.2 rfl (by decide) w.heap.size Aq k cq (cellsOf secC qs) rfl HSEC.out HW7.out.size (some ⟨w5.heap.size, 0, none⟩) 1 1 [.string p.nm, .int .i64 p.kd, .int .i64 p.al, .slice A2 p.zs.length c2, .int .i64 p.sz, .slice A5 p.fs.length c5] rfl (rd_lit (w5.setCell ⟨wr.heap.size, 5, none⟩ (.slice A5 p.fs.length c5)) #[.string p.nm, .int .i64 p.kd, .int .i64 p.al, .slice A2 p.zs.length c2, .int .i64 p.sz, .slice A5 p.fs.length c5] 73 _ hz6.symm) rfl (fun h => by cases h) ?o1 ?n1 ?n2 ?_)
      case o1 => intro u hu; simp only [List.mem_cons, List.not_mem_nil, or_false] at hu; rcases hu with rfl | rfl | rfl | rfl | rfl | rfl <;> rfl
      case n1 => unfold maxLen; omega
      case n2 => omega
      intro A8 n8 c8 w8 hn8 o8 g8 k8
      subst hn8
      have HX7 := hide ((HX6.out.alloc (.cells #[.string p.nm, .int .i64 p.kd, .int .i64 p.al, .slice A2 p.zs.length c2, .int .i64 p.sz, .slice A5 p.fs.length c5] 73)).grown g8 (fun j hj => HSEC.out.box (HX6.out.alloc _) (by decide) j hj))
      have HV7 := hide ((HV6.out.alloc (.cells #[.string p.nm, .int .i64 p.kd, .int .i64 p.al, .slice A2 p.zs.length c2, .int .i64 p.sz, .slice A5 p.fs.length c5] 73)).grown g8 (fun j hj => HSEC.out.box (HV6.out.alloc _) (by decide) j hj))
      have HRR7 := hide ((HRR6.out.alloc (.cells #[.string p.nm, .int .i64 p.kd, .int .i64 p.al, .slice A2 p.zs.length c2, .int .i64 p.sz, .slice A5 p.fs.length c5] 73)).grown g8 (fun j hj => HSEC.out.box (HRR6.out.alloc _) (by decide) j hj))
      have HY7 := hide ((HY6.out.alloc (.cells #[.string p.nm, .int .i64 p.kd, .int .i64 p.al, .slice A2 p.zs.length c2, .int .i64 p.sz, .slice A5 p.fs.length c5] 73)).grown g8 (fun j hj h => apartT (HY6.out.alloc _) HSEC.out (by decide) j hj h))
      have HBW7 := hide (HW7.out.grown g8 HW7.out.size (fun j hj => (HSEC.out.lt j hj).1))
      have hgrow : ∀ x : SV, RwS ((w5.setCell ⟨wr.heap.size, 5, none⟩ (.slice A5 p.fs.length c5)).alloc (.cells #[.string p.nm, .int .i64 p.kd, .int .i64 p.al, .slice A2 p.zs.length c2, .int .i64 p.sz, .slice A5 p.fs.length c5] 73)) w.heap.size x → RwS w8 w.heap.size x := fun x hx => ⟨hx.1.grown g8 (fun j hj h => apartT hx.1 HSEC.out (by decide) j hj h), hx.2.grown g8 (fun j hj h => apartT hx.2 HSEC.out (by decide) j hj h)⟩
      have hq7 : RwS ((w5.setCell ⟨wr.heap.size, 5, none⟩ (.slice A5 p.fs.length c5)).alloc (.cells #[.string p.nm, .int .i64 p.kd, .int .i64 p.al, .slice A2 p.zs.length c2, .int .i64 p.sz, .slice A5 p.fs.length c5] 73)) w.heap.size ⟨p.nm, p.kd, p.al, A2, c2, p.zs, p.sz, A5, c5, p.fs⟩ := ⟨HA6.out.alloc _, HF6.out.alloc _⟩
      have hqs7 : ∀ x ∈ qs, RwS ((w5.setCell ⟨wr.heap.size, 5, none⟩ (.slice A5 p.fs.length c5)).alloc (.cells #[.string p.nm, .int .i64 p.kd, .int .i64 p.al, .slice A2 p.zs.length c2, .int .i64 p.sz, .slice A5 p.fs.length c5] 73)) w.heap.size x := fun x hx => (HO6.out.2.1 x hx).call ((Below.refl _ _).alloc (Nat.le_refl _) _)
      have hX7 := HX7.out
      have HOW := hide (show OwnSs (w8.setCell ⟨X, 0, none⟩ (.slice A8 (k + 1) c8)) w.heap.size A8 c8 (qs ++ [⟨p.nm, p.kd, p.al, A2, c2, p.zs, p.sz, A5, c5, p.fs⟩]) from by
        refine ⟨?_, ?_, ?_⟩
        · have h := (show Row w8 w.heap.size 73 6 A8 (k + 1) c8 _ from o8).set (a := ⟨X, 0, none⟩) ((show Row w8 w.heap.size 73 6 A8 (k + 1) c8 _ from o8).box hX7 (by decide)) (.slice A8 (k + 1) c8)
          rw [cells_snoc, List.length_append, HQ.out.1]
          exact h
        · refine RwSs.snoc (fun x hx => ?_) ?_
          · exact (hgrow x (hqs7 x hx)).set (a := ⟨X, 0, none⟩) ((hgrow x (hqs7 x hx)).box hX7 (by decide) (by decide)) _
          · exact (hgrow _ hq7).set (a := ⟨X, 0, none⟩) ((hgrow _ hq7).box hX7 (by decide) (by decide)) _
        · refine HO6.out.2.2.snoc (N := wr.heap.size) HQlt.out ?_
          rintro j (hj | hj)
          · exact HA2k.out j hj
          · exact HFk.out j hj)
      have HX8 := hide (show Box (w8.setCell ⟨X, 0, none⟩ (.slice A8 (k + 1) c8)) X 26 #[.slice A8 (k + 1) c8, .slice A1 ys.length c1] from hX7.set 0 _)
      have HY8 := hide (HY7.out.set (a := ⟨X, 0, none⟩) (HY7.out.box hX7 (by decide)) (.slice A8 (k + 1) c8))
      have HV8 := hide (HV7.out.far (p := ⟨X, 0, none⟩) (Nat.ne_of_lt hVX) (.slice A8 (k + 1) c8))
      have HRR8 := hide (HRR7.out.far (p := ⟨X, 0, none⟩) (Nat.ne_of_lt hRX) (.slice A8 (k + 1) c8))
      have HB8 := hide (HBW7.out.setCell (p := ⟨X, 0, none⟩) (Nat.le_of_lt hVX) (.slice A8 (k + 1) c8))
      have x0 := hX7.cell 0
      have x1 := hX7.cell 1
      have xf0 := hX7.frozen 0
      simp only [List.getElem?_toArray, List.getElem?_cons_zero, List.getElem?_cons_succ] at x0 x1
      have hxl8 := hX7.lt
      clear o8 g8 k8 hgrow hq7 hqs7 hX7 HX7 HV7 HRR7 HY7 HBW7 HSEC HW7 HO6 HY6 HV6 HRR6 HBW6 HX6 HSS6 u0 u1 u2 u3 u4 u5 s0 s1 s2 s3 s4 s5 sf5
      go_wp2_with fail
      refine ⟨⟨k + 1, qs ++ [⟨p.nm, p.kd, p.al, A2, c2, p.zs, p.sz, A5, c5, p.fs⟩], A8, c8, by omega, by simp [HQ.out.1], by go_num, ?_, HOW.out, HX8.out, HY8.out, HV8.out, HRR8.out, HB8.out⟩, by simp [intOf]; omega⟩
      rw [← HD.out, List.map_append, List.map_append]
      rfl
    · have e : k = ps.length := by omega
      have hqd' : qs.map SV.d = ps.map SV.d := by rw [hqd, List.take_of_length_le (by omega)]
      have HOO := hide (show OwnO wr w.heap.size ⟨Aq, cq, qs, A1, c1, ys⟩ from ⟨ho, hrow⟩)
      have HDD := hide (show OV.d ⟨Aq, cq, qs, A1, c1, ys⟩ = OV.d ⟨A, c, ps, Y, yc, ys⟩ by simp only [OV.d, hqd'])
      have HNE := hide (show ∀ j, oblk ⟨Aq, cq, qs, A1, c1, ys⟩ j → j ≠ R from by
        rintro j ((hj | ⟨x, hx, hj⟩) | hj)
        · exact ho.1.box hrr (by decide) j hj
        · exact (ho.2.1 x hx).box hrr (by decide) (by decide) j hj
        · exact hrow.box hrr (by decide) j hj)
      have HFIN := hide (CObject.ret_object HOO.out HB.out HNE.out (Nat.le_of_lt hVR))
      rw [HDD.out] at HFIN
      have y0 := hrr.cell 0
      have y1 := hrr.cell 1
      have yf0 := hrr.frozen 0
      have yf1 := hrr.frozen 1
      have hrl := hrr.lt
      simp only [List.getElem?_toArray, List.getElem?_cons_zero, List.getElem?_cons_succ] at y0 y1
      have kk := (HRR.out.set 0 (.slice Aq qs.length cq)).set 1 (.slice A1 ys.length c1)
      have k0 := kk.cell 0
      have k1 := kk.cell 1
      simp only [List.setIfInBounds_toArray, List.set_cons_zero, List.set_cons_succ, List.getElem?_toArray, List.getElem?_cons_zero, List.getElem?_cons_succ] at k0 k1
      clear kk ho hx hrow hv hrr hb hqd hqd' e
      subst hql
      go_wp2_with fail
      exact bodyPost_ret (v := OV.v ⟨Aq, cq, qs, A1, c1, ys⟩) (by simp [results, Try.results62, go_sem, OV.v, k0, k1]) rfl HFIN.out
end Go.Proofs.Ytmglgjchemecjaa.CCopyS
