/- slices.Clone of symbols, fixups and bytes. -/
import Derived.Test.YtmglgjchemecjaaFnWarningsOfM8
import Derived.Lib.AppendZerosOnto
import Derived.WalkSpells
import Derived.Deep.RegionHeld3
import Derived.Deep.RegionLaw
import Derived.Deep.RegionLawGrows
import Derived.Lib.SliceRun
import Derived.Lib.VarintMem
import Derived.Lib.EndianMore
import Derived.Laws.Cover1
namespace Go.Proofs.Ytmglgjchemecjaa.CClones
set_option maxRecDepth 200000
open Go.ChangeShapes Go.WideShapes Go.ChangeAt Go.RowKit Kit CFixups CSymbols PObj BObj CMarkRows CObjValid CCopyS
/-- A row of the call's own. -/
def RetRow (T m n : Nat) (xs : List Value) (w : World) (e : Ending) (w' : World) : Prop := ∃ A c, e = .returned (.slice A n c) ∧ Row w' w.heap.size T m A n c xs ∧ Below w.heap.size w w'
theorem cloneY_any (A : Option Addr) (xs : List YD) (c B : Nat) (w : World) (hx : Rd w B A (cellsOf symbolC xs)) (hB : B ≤ w.heap.size) (hxm : xs.length ≤ 1048576) (hnil : A = none → c = 0) :
    Calls Try.prog 111 #[.slice A xs.length c] w (RetRow 69 4 xs.length (cellsOf symbolC xs) w) := by
  obtain ⟨i0, hi, hz0, hz1, hz2⟩ := info_parts infoY
  have hq := fun W => Lib.run_eql_slice_nil (P := Try.prog) W 24 69 A xs.length c 0 0 Try.underlying24
  cases A with
  | none =>
    have hxs : xs = [] := by
      cases xs with
      | nil => rfl
      | cons u r =>
        obtain ⟨b, off, e', _⟩ := hx 0 _ rfl
        cases e'
    subst hxs
    have hc := hnil rfl
    subst hc
    clear hnil hx
    simp only [Option.isNone_none, List.length_nil] at hq
    show Calls _ _ #[.slice none 0 0] _ _
    go_enter Try.func111, Try.ntmps111
    go_wp2_with fail
    go_ret
    exact ⟨none, 0, rfl, Row.empty _ _ _ _ _, Below.refl _ _⟩
  | some ad =>
    have HX := hide ((hx.more hB).below ((Below.refl _ _).alloc (Nat.le_refl _) (.cells #[] 69)))
    have HB : Hid (Below w.heap.size w (w.alloc (.cells #[] 69))) := (by repeat (first | exact Below.refl _ _ | with_reducible assumption | (refine Below.drew ?_) | (refine Below.drewN ?_ _) | (refine Below.alloc ?_ (by simp; try omega) _) | (refine Below.setCell ?_ (by simp; try omega) _)))
    have HI := hide (And.intro hi (And.intro hz0 (And.intro hz1 hz2)))
    simp only [Option.isNone_some] at hq
    clear hx hnil hi hz0 hz1 hz2
    go_enter Try.func111, Try.ntmps111
    go_wp2_with (at_builtin; refine wpList_app _ rfl (.tmp 5) (.tmp 6) 24 rfl 69 i0 (.agg #[.string ByteArray.empty, .int .i64 0, .int .i64 0, .int .i64 0]) 4 40 Try.underlying24 HI.out.1 HI.out.2.1 HI.out.2.2.1 HI.out.2.2.2 rfl (by decide) w.heap.size (some ⟨w.heap.size, 0, none⟩) 0 0 [] rfl (Row.empty _ _ _ _ _) HB.out.size (some ad) xs.length c (cellsOf symbolC xs) rfl HX.out (cellsOf_len symbolC_len xs) (fun h => by cases h) (one_sym xs) ?n1 ?n2 ?_)
    case n1 => unfold maxLen; omega
    case n2 => omega
    intro A6 n6 c6 w6 hn6 o6 g6 k6
    have hn6 : n6 = xs.length := by omega
    have HO6 := hide (show Row w6 w.heap.size 69 4 A6 n6 c6 (cellsOf symbolC xs) from o6)
    have HB6 := hide (HB.out.grown g6 HB.out.size (fun k hk => by cases hk))
    clear o6 g6 k6
    subst hn6
    go_wp2_with fail
    go_ret
    exact ⟨A6, c6, rfl, HO6.out, HB6.out⟩
theorem cloneF_any (A : Option Addr) (xs : List FD) (c B : Nat) (w : World) (hx : Rd w B A (cellsOf fixupC xs)) (hB : B ≤ w.heap.size) (hxm : xs.length ≤ 1048576) (hnil : A = none → c = 0) :
    Calls Try.prog 113 #[.slice A xs.length c] w (RetRow 77 4 xs.length (cellsOf fixupC xs) w) := by
  obtain ⟨i0, hi, hz0, hz1, hz2⟩ := info_parts CFixups.info
  have hq := fun W => Lib.run_eql_slice_nil (P := Try.prog) W 71 77 A xs.length c 0 0 Try.underlying71
  cases A with
  | none =>
    have hxs : xs = [] := by
      cases xs with
      | nil => rfl
      | cons u r =>
        obtain ⟨b, off, e', _⟩ := hx 0 _ rfl
        cases e'
    subst hxs
    have hc := hnil rfl
    subst hc
    clear hnil hx
    simp only [Option.isNone_none, List.length_nil] at hq
    show Calls _ _ #[.slice none 0 0] _ _
    go_enter Try.func113, Try.ntmps113
    go_wp2_with fail
    go_ret
    exact ⟨none, 0, rfl, Row.empty _ _ _ _ _, Below.refl _ _⟩
  | some ad =>
    have HX := hide ((hx.more hB).below ((Below.refl _ _).alloc (Nat.le_refl _) (.cells #[] 77)))
    have HB : Hid (Below w.heap.size w (w.alloc (.cells #[] 77))) := (by repeat (first | exact Below.refl _ _ | with_reducible assumption | (refine Below.drew ?_) | (refine Below.drewN ?_ _) | (refine Below.alloc ?_ (by simp; try omega) _) | (refine Below.setCell ?_ (by simp; try omega) _)))
    have HI := hide (And.intro hi (And.intro hz0 (And.intro hz1 hz2)))
    simp only [Option.isNone_some] at hq
    clear hx hnil hi hz0 hz1 hz2
    go_enter Try.func113, Try.ntmps113
    go_wp2_with (at_builtin; refine wpList_app _ rfl (.tmp 5) (.tmp 6) 71 rfl 77 i0 (.agg #[.int .i64 0, .int .i64 0, .int .i64 0, .int .i64 0]) 4 32 Try.underlying71 HI.out.1 HI.out.2.1 HI.out.2.2.1 HI.out.2.2.2 rfl (by decide) w.heap.size (some ⟨w.heap.size, 0, none⟩) 0 0 [] rfl (Row.empty _ _ _ _ _) HB.out.size (some ad) xs.length c (cellsOf fixupC xs) rfl HX.out (cellsOf_len fixupC_len xs) (fun h => by cases h) (one_fix xs) ?n1 ?n2 ?_)
    case n1 => unfold maxLen; omega
    case n2 => omega
    intro A6 n6 c6 w6 hn6 o6 g6 k6
    have hn6 : n6 = xs.length := by omega
    have HO6 := hide (show Row w6 w.heap.size 77 4 A6 n6 c6 (cellsOf fixupC xs) from o6)
    have HB6 := hide (HB.out.grown g6 HB.out.size (fun k hk => by cases hk))
    clear o6 g6 k6
    subst hn6
    go_wp2_with fail
    go_ret
    exact ⟨A6, c6, rfl, HO6.out, HB6.out⟩
theorem clone8_any (A : Option Addr) (xs : List Int) (c B : Nat) (w : World) (hx : Rd w B A (ints .u8 xs)) (hB : B ≤ w.heap.size) (hxm : xs.length ≤ 1048576) (hnil : A = none → c = 0) :
    Calls Try.prog 112 #[.slice A xs.length c] w (RetRow 5 1 xs.length (ints .u8 xs) w) := by
  obtain ⟨i0, hi, hz0, hz1, hz2⟩ := info_parts CBytes.info8
  have hq := fun W => Lib.run_eql_slice_nil (P := Try.prog) W 22 5 A xs.length c 0 0 Try.underlying22
  cases A with
  | none =>
    have hxs : xs = [] := by
      cases xs with
      | nil => rfl
      | cons u r =>
        obtain ⟨b, off, e', _⟩ := hx 0 (.int .u8 u) rfl
        cases e'
    subst hxs
    have hc := hnil rfl
    subst hc
    clear hnil hx
    simp only [Option.isNone_none, List.length_nil] at hq
    show Calls _ _ #[.slice none 0 0] _ _
    go_enter Try.func112, Try.ntmps112
    go_wp2_with fail
    go_ret
    exact ⟨none, 0, rfl, Row.empty _ _ _ _ _, Below.refl _ _⟩
  | some ad =>
    have HX := hide ((hx.more hB).below ((Below.refl _ _).alloc (Nat.le_refl _) (.cells #[] 5)))
    have HB : Hid (Below w.heap.size w (w.alloc (.cells #[] 5))) := (by repeat (first | exact Below.refl _ _ | with_reducible assumption | (refine Below.drew ?_) | (refine Below.drewN ?_ _) | (refine Below.alloc ?_ (by simp; try omega) _) | (refine Below.setCell ?_ (by simp; try omega) _)))
    have HI := hide (And.intro hi (And.intro hz0 (And.intro hz1 hz2)))
    simp only [Option.isNone_some] at hq
    clear hx hnil hi hz0 hz1 hz2
    go_enter Try.func112, Try.ntmps112
    go_wp2_with (at_builtin; refine wpList_app _ rfl (.tmp 5) (.tmp 6) 22 rfl 5 i0 (.int .u8 0) 1 1 Try.underlying22 HI.out.1 HI.out.2.1 HI.out.2.2.1 HI.out.2.2.2 rfl (by decide) w.heap.size (some ⟨w.heap.size, 0, none⟩) 0 0 [] rfl (Row.empty _ _ _ _ _) HB.out.size (some ad) xs.length c (ints .u8 xs) rfl HX.out (by simp) (fun h => by cases h) (one_ints _ xs) ?n1 ?n2 ?_)
    case n1 => unfold maxLen; omega
    case n2 => omega
    intro A6 n6 c6 w6 hn6 o6 g6 k6
    have hn6 : n6 = xs.length := by omega
    have HO6 := hide (show Row w6 w.heap.size 5 1 A6 n6 c6 (ints .u8 xs) from o6)
    have HB6 := hide (HB.out.grown g6 HB.out.size (fun k hk => by cases hk))
    clear o6 g6 k6
    subst hn6
    go_wp2_with fail
    go_ret
    exact ⟨A6, c6, rfl, HO6.out, HB6.out⟩
end Go.Proofs.Ytmglgjchemecjaa.CClones
/- The program's copyObject: an object in new memory. -/
namespace Go.Proofs.Ytmglgjchemecjaa.CCopyI
set_option maxRecDepth 200000
open Go.ChangeShapes Go.WideShapes Go.ChangeAt Go.RowKit Kit CFixups CSymbols PObj BObj CMarkRows CObjValid CCopyS CClones
set_option maxHeartbeats 2000000 in
theorem copyObject_any (o : OV) (w : World) (hr : RdO w w.heap.size o) (hf : Fit o) (hn : Nils o) (hs : o.ps.length ≤ 100 ∧ o.ys.length ≤ 100) :
    Calls Try.prog 48 #[.agg #[.slice o.A o.ps.length o.c, .slice o.Y o.ys.length o.yc]] w (RetO o.d w) := by
  obtain ⟨ix, hx1, hx2, hx3, hx4⟩ := info_parts BObj.info
  have HIX := hide (And.intro hx1 (And.intro hx2 (And.intro hx3 hx4)))
  clear hx1 hx2 hx3 hx4
  obtain ⟨A, c, ps, Y, yc, ys⟩ := o
  obtain ⟨np, ny, cy, hp, hy⟩ := hf
  obtain ⟨ny0, np0⟩ := hn
  obtain ⟨ss1, ss2⟩ := hs
  simp only at np ny cy hp hy ny0 np0 ss1 ss2 ⊢
  have HR := hide hr
  have HL := hide (And.intro hp np0)
  have HNY := hide ny0
  clear hr hp hy np0 ny0
  have B0 : Below w.heap.size w ((w.alloc (.cells #[.slice A ps.length c, .slice Y ys.length yc] 26)).alloc (.cells #[.slice none 0 0, .slice none 0 0] 26)) := (by repeat (first | exact Below.refl _ _ | with_reducible assumption | (refine Below.drew ?_) | (refine Below.drewN ?_ _) | (refine Below.alloc ?_ (by simp; try omega) _) | (refine Below.setCell ?_ (by simp; try omega) _)))
  have HV0 := hide ((Box.new w 26 #[.slice A ps.length c, .slice Y ys.length yc]).alloc (.cells #[.slice none 0 0, .slice none 0 0] 26))
  have HR0 := (Box.new (w.alloc (.cells #[.slice A ps.length c, .slice Y ys.length yc] 26)) 26 #[.slice none 0 0, .slice none 0 0])
  simp only [World.size_alloc] at HR0
  have HRR0 := hide HR0
  clear HR0
  have HB0 := hide B0
  have hVR : w.heap.size < w.heap.size + 1 := by omega
  clear B0
  go_enter Try.func48, Try.ntmps48
  go_wp2_with fail
  refine (cloneY_any Y ys yc w.heap.size _ (HR.out.2.below HB0.out) HB0.out.size (by omega) HNY.out).mono ?_
  rintro e w1 ⟨A1, c1, rfl, o1, b1⟩
  have HB1 := hide (HB0.out.trans (b1.mono HB0.out.size))
  have HV1 := hide (HV0.out.call b1)
  have HRR1 := hide (HRR0.out.call b1)
  have HY1 := hide (o1.down HB0.out.size)
  have hR0 := HRR1.out.lt
  have v0 := HV1.out.cell 0
  simp only [List.getElem?_toArray, List.getElem?_cons_zero, List.getElem?_cons_succ] at v0
  have hvl1 := HV1.out.lt
  clear o1 b1 HB0 HV0 HRR0
  go_wp2_with fail
  clear v0
  have HX2 := hide (Box.new w1 26 #[.slice none 0 0, .slice A1 ys.length c1])
  have HB2 := hide (HB1.out.alloc HB1.out.size (.cells #[.slice none 0 0, .slice A1 ys.length c1] 26))
  have HV2 := hide (HV1.out.alloc (.cells #[.slice none 0 0, .slice A1 ys.length c1] 26))
  have HRR2 := hide (HRR1.out.alloc (.cells #[.slice none 0 0, .slice A1 ys.length c1] 26))
  have HY2 := hide (HY1.out.alloc (.cells #[.slice none 0 0, .slice A1 ys.length c1] 26))
  clear HB1 HV1 HRR1 HY1
  generalize w1.alloc (.cells #[.slice none 0 0, .slice A1 ys.length c1] 26) = w2 at *
  have hRX : w.heap.size + 1 < w1.heap.size := hR0
  have hVX : w.heap.size < w1.heap.size := by omega
  generalize w1.heap.size = X at *
  generalize w.heap.size + 1 = R at *
  go_loopw [13] (fun i wi => ∃ (k : Nat) (qs : List SV) (Aq : Option Addr) (cq : Nat), k ≤ ps.length ∧ qs.length = k ∧ i = .int .i64 k ∧ qs.map SV.d = (ps.take k).map SV.d ∧ OwnSs wi w.heap.size Aq cq qs ∧ Box wi X 26 #[.slice Aq k cq, .slice A1 ys.length c1] ∧ Row wi w.heap.size 69 4 A1 ys.length c1 (cellsOf symbolC ys) ∧ Box wi w.heap.size 26 #[.slice A ps.length c, .slice Y ys.length yc] ∧ Box wi R 26 #[.slice none 0 0, .slice none 0 0] ∧ Below w.heap.size w wi) (fun i _ => ps.length - (intOf i).toNat)
  case atStart => exact ⟨0, [], none, 0, Nat.zero_le _, rfl, rfl, rfl, ⟨Row.empty _ _ _ _ _, (fun p hp => by cases hp), List.Pairwise.nil⟩, HX2.out, HY2.out, HV2.out, HRR2.out, HB2.out⟩
  case round =>
    clear HX2 HY2 HV2 HRR2 HB2
    obtain ⟨k, qs, Aq, cq, hk, hql, rfl, hqd, ho, hx, hrow, hv, hrr, hb⟩ := hrel
    have HO := hide ho
    have HX := hide hx
    have HY := hide hrow
    have HV := hide hv
    have HRR := hide hrr
    have HB := hide hb
    have HQ := hide (And.intro hql hqd)
    have v0 := hv.cell 0
    have x0 := hx.cell 0
    have x1 := hx.cell 1
    simp only [List.getElem?_toArray, List.getElem?_cons_zero, List.getElem?_cons_succ] at v0 x0 x1
    have hvl := hv.lt
    have hxl := hx.lt
    by_cases hlt : k < ps.length
    · obtain ⟨b, off, hA, hbg, hc⟩ := (HR.out.1.1.below hb).row secC_len (by decide) hlt
      have hbw : b < wr.heap.size := Nat.lt_of_lt_of_le hbg hb.size
      have hc0 := hc 0 _ rfl
      have hc1 := hc 1 _ rfl
      have hc2 := hc 2 _ rfl
      have hc3 := hc 3 _ rfl
      have hc4 := hc 4 _ rfl
      have hc5 := hc 5 _ rfl
      simp only [Nat.add_zero] at hc0
      have HM := hide (HL.out.1 _ (List.getElem_mem hlt))
      have HN := hide (HL.out.2 _ (List.getElem_mem hlt))
      have HRS := hide (HR.out.1.2 _ (List.getElem_mem hlt))
      have HD := hide (show (qs ++ [ps[k]]).map SV.d = (ps.take (k + 1)).map SV.d by rw [take_succ hlt, List.map_append, List.map_append, hqd])
      clear hql hqd ho hx hrow hv hrr hb hc
      subst hA
      generalize ps[k] = p at *
      have hmz := HM.out.2.1
      have hmf := HM.out.2.2
      go_wp2_with fail
      have HSa := Box.new wr 73 #[.string p.nm, .int .i64 p.kd, .int .i64 p.al, .slice p.A p.zs.length p.c, .int .i64 p.sz, .slice p.F p.fs.length p.fc]
      have HBA := hide (show Below wr.heap.size wr (wr.alloc (.cells #[.string p.nm, .int .i64 p.kd, .int .i64 p.al, .slice p.A p.zs.length p.c, .int .i64 p.sz, .slice p.F p.fs.length p.fc] 73)) from (by repeat (first | exact Below.refl _ _ | with_reducible assumption | (refine Below.drew ?_) | (refine Below.drewN ?_ _) | (refine Below.alloc ?_ (by simp; try omega) _) | (refine Below.setCell ?_ (by simp; try omega) _))))
      generalize wr.alloc (.cells #[.string p.nm, .int .i64 p.kd, .int .i64 p.al, .slice p.A p.zs.length p.c, .int .i64 p.sz, .slice p.F p.fs.length p.fc] 73) = wa at *
      have Z0 : wa.cell? ⟨wr.heap.size, 3, none⟩ = some (.slice p.A p.zs.length p.c) ∧ wa.cell? ⟨wr.heap.size, 5, none⟩ = some (.slice p.F p.fs.length p.fc) := ⟨HSa.cell 3, HSa.cell 5⟩
      have hSa := HSa.lt
      have HS := hide HSa
      have HWA := hide (HB.out.trans (HBA.out.mono HB.out.size))
      clear HSa hc0 hc1 hc2 hc3 hc4 hc5 v0 x0 x1
      refine Reg.startT (fun W => W.cell? ⟨wr.heap.size, 3, none⟩ = some (.slice p.A p.zs.length p.c) ∧ W.cell? ⟨wr.heap.size, 5, none⟩ = some (.slice p.F p.fs.length p.fc)) (fun j => j == 7 || j == 8 || j == 9) (by kernel_rfl) ?_
      have hHeld : wa.drew.cell? ⟨wr.heap.size, 3, none⟩ = some (.slice p.A p.zs.length p.c) ∧ wa.drew.cell? ⟨wr.heap.size, 5, none⟩ = some (.slice p.F p.fs.length p.fc) := Z0
      refine Reg.takeT (i := 0) (v := ?_) rfl (by kernel_rfl) (by kernel_rfl) (by kernel_rfl) (by kernel_rfl) (fun _ _ _ h => h) (Or.inl ⟨by rfl, ?_⟩) (by assumption) ?_
      rotate_left 1
      focus (intro w hSw; (try dsimp only at hSw); go_simp; (try with_reducible rfl))
      try simp only [List.getElem_toArray, List.getElem_cons_succ, List.getElem_cons_zero, Act.put, List.setIfInBounds_toArray, List.set_cons_zero, List.set_cons_succ]
      refine Reg.takeT (i := 1) (v := ?_) rfl (by kernel_rfl) (by kernel_rfl) (by kernel_rfl) (by kernel_rfl) (fun _ _ _ h => h) (Or.inl ⟨by rfl, ?_⟩) (by assumption) ?_
      rotate_left 1
      focus (intro w hSw; (try dsimp only at hSw); go_simp; (try with_reducible rfl))
      try simp only [List.getElem_toArray, List.getElem_cons_succ, List.getElem_cons_zero, Act.put, List.setIfInBounds_toArray, List.set_cons_zero, List.set_cons_succ]
      refine Reg.takeT (i := 3) (v := ?_) rfl (by kernel_rfl) (by kernel_rfl) (by kernel_rfl) (by kernel_rfl) (fun _ _ _ h => h) (Or.inl ⟨by rfl, ?_⟩) (by assumption) ?_
      rotate_left 1
      focus (intro w hSw; (try dsimp only at hSw); go_simp; (try with_reducible rfl))
      try simp only [List.getElem_toArray, List.getElem_cons_succ, List.getElem_cons_zero, Act.put, List.setIfInBounds_toArray, List.set_cons_zero, List.set_cons_succ]
      refine Reg.takeT (i := 4) (v := ?_) rfl (by kernel_rfl) (by kernel_rfl) (by kernel_rfl) (by kernel_rfl) (fun _ _ _ h => h) (Or.inl ⟨by rfl, ?_⟩) (by assumption) ?_
      rotate_left 1
      focus (intro w hSw; (try dsimp only at hSw); go_simp; (try with_reducible rfl))
      try simp only [List.getElem_toArray, List.getElem_cons_succ, List.getElem_cons_zero, Act.put, List.setIfInBounds_toArray, List.set_cons_zero, List.set_cons_succ]
      clear hHeld
      refine Reg.oneT (i := 2) rfl (by kernel_rfl) (fun K hK => ?_)
      go_simp
      refine (clone8_any p.A p.zs p.c w.heap.size _ (HRS.out.1.below (HWA.out.drew)) (show w.heap.size ≤ wa.drew.heap.size from HWA.out.size) (by omega) HN.out.1).mono ?_
      rintro e w2 ⟨A2, c2, rfl, o2, b2⟩
      have b2' : Below wa.heap.size wa w2 := below_drawn b2
      have HS2 := hide (HS.out.call b2')
      have HA2 := hide (And.intro (o2.down (show w.heap.size ≤ wa.drew.heap.size from HWA.out.size)) (fun k (hk : blk A2 c2 = some k) => (show wr.heap.size ≤ k from Nat.le_trans HBA.out.size ((o2.lt k hk).1))))
      have HBt := hide (HBA.out.trans (b2'.mono HBA.out.size))
      have hHeld : w2.cell? ⟨wr.heap.size, 3, none⟩ = some (.slice p.A p.zs.length p.c) ∧ w2.cell? ⟨wr.heap.size, 5, none⟩ = some (.slice p.F p.fs.length p.fc) := ⟨HS2.out.cell 3, HS2.out.cell 5⟩
      clear o2 b2 b2' HS Z0
      refine hK.out _ _ hHeld ?_
      clear hK K
      try simp only [List.getElem_toArray, List.getElem_cons_succ, List.getElem_cons_zero, Act.put, List.setIfInBounds_toArray, List.set_cons_zero, List.set_cons_succ]
      refine Reg.takeT (i := 6) (v := ?_) rfl (by kernel_rfl) (by kernel_rfl) (by kernel_rfl) (by kernel_rfl) (fun _ _ _ h => h) (Or.inl ⟨by rfl, ?_⟩) (by assumption) ?_
      rotate_left 1
      focus (intro w hSw; (try dsimp only at hSw); go_simp; (try with_reducible rfl))
      try simp only [List.getElem_toArray, List.getElem_cons_succ, List.getElem_cons_zero, Act.put, List.setIfInBounds_toArray, List.set_cons_zero, List.set_cons_succ]
      clear hHeld
      refine Reg.oneT (i := 5) rfl (by kernel_rfl) (fun K hK => ?_)
      go_simp
      have HW2 := hide (HB.out.trans (HBt.out.mono HB.out.size))
      refine (cloneF_any p.F p.fs p.fc w.heap.size _ (HRS.out.2.below HW2.out) HW2.out.size (by omega) HN.out.2).mono ?_
      rintro e w4 ⟨A5, c5, rfl, o5, b5⟩
      have HS4 := hide (HS2.out.call b5)
      have HA4 := hide (HA2.out.1.call b5)
      have HA2k := hide HA2.out.2
      have HF4 := hide (And.intro (o5.down HW2.out.size) (fun k (hk : blk A5 c5 = some k) => (show wr.heap.size ≤ k from Nat.le_trans HBt.out.size ((o5.lt k hk).1))))
      have HB4 := hide (HBt.out.trans (b5.mono HBt.out.size))
      have hHeld : w4.cell? ⟨wr.heap.size, 3, none⟩ = some (.slice p.A p.zs.length p.c) ∧ w4.cell? ⟨wr.heap.size, 5, none⟩ = some (.slice p.F p.fs.length p.fc) := ⟨HS4.out.cell 3, HS4.out.cell 5⟩
      have sf3 := HS4.out.frozen 3
      have sf5 := HS4.out.frozen 5
      have s3 := hHeld.1
      have s5 := hHeld.2
      have hSl4 := HS4.out.lt
      clear o5 b5 HS2 HA2 HBt HW2
      refine hK.out _ _ hHeld ?_
      clear hK K
      try simp only [List.getElem_toArray, List.getElem_cons_succ, List.getElem_cons_zero, Act.put, List.setIfInBounds_toArray, List.set_cons_zero, List.set_cons_succ]
      refine Reg.lastT (i := 7) rfl (by kernel_rfl) (by rfl) (fun K hK => ?_)
      go_simp
      refine hK.out _ _ ?_
      clear hK K
      try simp only [List.getElem_toArray, List.getElem_cons_succ, List.getElem_cons_zero, Act.put, List.setIfInBounds_toArray, List.set_cons_zero, List.set_cons_succ]
      refine Reg.lastT (i := 8) rfl (by kernel_rfl) (by rfl) (fun K hK => ?_)
      go_simp
      refine hK.out _ _ ?_
      clear hK K
      try simp only [List.getElem_toArray, List.getElem_cons_succ, List.getElem_cons_zero, Act.put, List.setIfInBounds_toArray, List.set_cons_zero, List.set_cons_succ]
      refine Reg.lastT (i := 9) rfl (by kernel_rfl) (by rfl) (fun K hK => ?_)
      go_simp
      refine hK.out _ _ ?_
      clear hK K hHeld s3 s5
      try simp only [List.getElem_toArray, List.getElem_cons_succ, List.getElem_cons_zero, Act.put, List.setIfInBounds_toArray, List.set_cons_zero, List.set_cons_succ]
      refine Reg.doneT (by kernel_rfl) ?_ _
      have HS5 := hide (show Box (w4.setCell ⟨wr.heap.size, 3, none⟩ (.slice A2 p.zs.length c2)) wr.heap.size 73 #[.string p.nm, .int .i64 p.kd, .int .i64 p.al, .slice A2 p.zs.length c2, .int .i64 p.sz, .slice p.F p.fs.length p.fc] from HS4.out.set 3 _)
      have HA5 := hide (HA4.out.set (a := ⟨wr.heap.size, 3, none⟩) (HA4.out.box HS4.out (by decide)) (.slice A2 p.zs.length c2))
      have HF5 := hide (And.intro (HF4.out.1.set (a := ⟨wr.heap.size, 3, none⟩) (HF4.out.1.box HS4.out (by decide)) (.slice A2 p.zs.length c2)) HF4.out.2)
      have HBt := hide (HB4.out.setCell (p := ⟨wr.heap.size, 3, none⟩) (Nat.le_refl _) (.slice A2 p.zs.length c2))
      clear HS4 HA4 HF4 HB4 sf3 sf5
      generalize w4.setCell ⟨wr.heap.size, 3, none⟩ (.slice A2 p.zs.length c2) = w5 at *
      have s0 := HS5.out.cell 0
      have s1 := HS5.out.cell 1
      have s2 := HS5.out.cell 2
      have s3 := HS5.out.cell 3
      have s4 := HS5.out.cell 4
      have s5 := HS5.out.cell 5
      have sf5 := HS5.out.frozen 5
      simp only [List.getElem?_toArray, List.getElem?_cons_zero, List.getElem?_cons_succ] at s0 s1 s2 s3 s4 s5
      have hSl5 := HS5.out.lt
      -- the world behind the stores into the section's variable
      have HB6 := hide (show Below wr.heap.size wr (w5.setCell ⟨wr.heap.size, 5, none⟩ (.slice A5 p.fs.length c5)) from HBt.out.setCell (p := ⟨wr.heap.size, 5, none⟩) (Nat.le_refl _) _)
      have HA6 := hide (HA5.out.set (a := ⟨wr.heap.size, 5, none⟩) (HA5.out.box HS5.out (by decide)) (.slice A5 p.fs.length c5))
      have HF6 := hide (HF5.out.1.set (a := ⟨wr.heap.size, 5, none⟩) (HF5.out.1.box HS5.out (by decide)) (.slice A5 p.fs.length c5))
      have HFk := hide HF5.out.2
      have HX6 := hide (HX.out.call HB6.out)
      have x0 := HX6.out.cell 0
      have x1 := HX6.out.cell 1
      have xf0 := HX6.out.frozen 0
      simp only [List.getElem?_toArray, List.getElem?_cons_zero, List.getElem?_cons_succ] at x0 x1
      have HSS6 := hide (show Box (w5.setCell ⟨wr.heap.size, 5, none⟩ (.slice A5 p.fs.length c5)) wr.heap.size 73 #[.string p.nm, .int .i64 p.kd, .int .i64 p.al, .slice A2 p.zs.length c2, .int .i64 p.sz, .slice A5 p.fs.length c5] from HS5.out.set 5 _)
      have u0 := HSS6.out.cell 0
      have u1 := HSS6.out.cell 1
      have u2 := HSS6.out.cell 2
      have u3 := HSS6.out.cell 3
      have u4 := HSS6.out.cell 4
      have u5 := HSS6.out.cell 5
      simp only [List.getElem?_toArray, List.getElem?_cons_zero, List.getElem?_cons_succ] at u0 u1 u2 u3 u4 u5
      have HO6 := hide (HO.out.call HB6.out)
      have HY6 := hide (HY.out.call HB6.out)
      have HV6 := hide (HV.out.call HB6.out)
      have HRR6 := hide (HRR.out.call HB6.out)
      have HBW6 := hide (HB.out.trans (HB6.out.mono HB.out.size))
      have HQlt := hide (fun x (hx : x ∈ qs) k (hk : sblk x k) => (show k < wr.heap.size from ((HO.out.2.1 x hx).lt k hk).2))
      have hcl : (cellsOf secC qs).length = k * 6 := by rw [cellsOf_len secC_len, HQ.out.1]
      clear HA5 HF5 HX HO HY HV HRR HB HBt HS5
      have hz6 : (w5.setCell ⟨wr.heap.size, 5, none⟩ (.slice A5 p.fs.length c5)).heap.size = w5.heap.size := by simp [World.setCell]
      have HSEC := hide (show Row ((w5.setCell ⟨wr.heap.size, 5, none⟩ (.slice A5 p.fs.length c5)).alloc (.cells #[.string p.nm, .int .i64 p.kd, .int .i64 p.al, .slice A2 p.zs.length c2, .int .i64 p.sz, .slice A5 p.fs.length c5] 73)) w.heap.size 73 6 Aq k cq (cellsOf secC qs) from by
        have h := (HO6.out.1).alloc (.cells #[.string p.nm, .int .i64 p.kd, .int .i64 p.al, .slice A2 p.zs.length c2, .int .i64 p.sz, .slice A5 p.fs.length c5] 73)
        rw [HQ.out.1] at h
        exact h)
      have HW7 := hide (HBW6.out.alloc HBW6.out.size (.cells #[.string p.nm, .int .i64 p.kd, .int .i64 p.al, .slice A2 p.zs.length c2, .int .i64 p.sz, .slice A5 p.fs.length c5] 73))
      go_wp2_with (at_builtin; refine wpList_app _ rfl (.tmp 26) (.tmp 28) 23 rfl 73 ix (.agg #[.string ByteArray.empty, .int .i64 0, .int .i64 0, .slice none 0 0, .int .i64 0, .slice none 0 0]) 6 88 Try.underlying23 HIX.out.1 HIX.out.2.1 HIX.out.2.2.1 HIX.out.2.2.2 rfl (by decide) w.heap.size Aq k cq (cellsOf secC qs) rfl HSEC.out HW7.out.size (some ⟨w5.heap.size, 0, none⟩) 1 1 [.string p.nm, .int .i64 p.kd, .int .i64 p.al, .slice A2 p.zs.length c2, .int .i64 p.sz, .slice A5 p.fs.length c5] rfl (rd_lit (w5.setCell ⟨wr.heap.size, 5, none⟩ (.slice A5 p.fs.length c5)) #[.string p.nm, .int .i64 p.kd, .int .i64 p.al, .slice A2 p.zs.length c2, .int .i64 p.sz, .slice A5 p.fs.length c5] 73 _ hz6.symm) rfl (fun h => by cases h) ?o1 ?n1 ?n2 ?_)
      case o1 => intro u hu; simp only [List.mem_cons, List.not_mem_nil, or_false] at hu; rcases hu with rfl | rfl | rfl | rfl | rfl | rfl <;> rfl
      case n1 => unfold maxLen; omega
      case n2 => omega
      intro A8 n8 c8 w8 hn8 o8 g8 k8
      subst hn8
      have HX7 := hide ((HX6.out.alloc (.cells #[.string p.nm, .int .i64 p.kd, .int .i64 p.al, .slice A2 p.zs.length c2, .int .i64 p.sz, .slice A5 p.fs.length c5] 73)).grown g8 (fun j hj => HSEC.out.box (HX6.out.alloc _) (by decide) j hj))
      have HV7 := hide ((HV6.out.alloc (.cells #[.string p.nm, .int .i64 p.kd, .int .i64 p.al, .slice A2 p.zs.length c2, .int .i64 p.sz, .slice A5 p.fs.length c5] 73)).grown g8 (fun j hj => HSEC.out.box (HV6.out.alloc _) (by decide) j hj))
      have HRR7 := hide ((HRR6.out.alloc (.cells #[.string p.nm, .int .i64 p.kd, .int .i64 p.al, .slice A2 p.zs.length c2, .int .i64 p.sz, .slice A5 p.fs.length c5] 73)).grown g8 (fun j hj => HSEC.out.box (HRR6.out.alloc _) (by decide) j hj))
      have HY7 := hide ((HY6.out.alloc (.cells #[.string p.nm, .int .i64 p.kd, .int .i64 p.al, .slice A2 p.zs.length c2, .int .i64 p.sz, .slice A5 p.fs.length c5] 73)).grown g8 (fun j hj h => apartT (HY6.out.alloc _) HSEC.out (by decide) j hj h))
      have HBW7 := hide (HW7.out.grown g8 HW7.out.size (fun j hj => (HSEC.out.lt j hj).1))
      have hgrow : ∀ x : SV, RwS ((w5.setCell ⟨wr.heap.size, 5, none⟩ (.slice A5 p.fs.length c5)).alloc (.cells #[.string p.nm, .int .i64 p.kd, .int .i64 p.al, .slice A2 p.zs.length c2, .int .i64 p.sz, .slice A5 p.fs.length c5] 73)) w.heap.size x → RwS w8 w.heap.size x := fun x hx => ⟨hx.1.grown g8 (fun j hj h => apartT hx.1 HSEC.out (by decide) j hj h), hx.2.grown g8 (fun j hj h => apartT hx.2 HSEC.out (by decide) j hj h)⟩
      have hq7 : RwS ((w5.setCell ⟨wr.heap.size, 5, none⟩ (.slice A5 p.fs.length c5)).alloc (.cells #[.string p.nm, .int .i64 p.kd, .int .i64 p.al, .slice A2 p.zs.length c2, .int .i64 p.sz, .slice A5 p.fs.length c5] 73)) w.heap.size ⟨p.nm, p.kd, p.al, A2, c2, p.zs, p.sz, A5, c5, p.fs⟩ := ⟨HA6.out.alloc _, HF6.out.alloc _⟩
      have hqs7 : ∀ x ∈ qs, RwS ((w5.setCell ⟨wr.heap.size, 5, none⟩ (.slice A5 p.fs.length c5)).alloc (.cells #[.string p.nm, .int .i64 p.kd, .int .i64 p.al, .slice A2 p.zs.length c2, .int .i64 p.sz, .slice A5 p.fs.length c5] 73)) w.heap.size x := fun x hx => (HO6.out.2.1 x hx).call ((Below.refl _ _).alloc (Nat.le_refl _) _)
      have hX7 := HX7.out
      have HOW := hide (show OwnSs (w8.setCell ⟨X, 0, none⟩ (.slice A8 (k + 1) c8)) w.heap.size A8 c8 (qs ++ [⟨p.nm, p.kd, p.al, A2, c2, p.zs, p.sz, A5, c5, p.fs⟩]) from by
        refine ⟨?_, ?_, ?_⟩
        · have h := (show Row w8 w.heap.size 73 6 A8 (k + 1) c8 _ from o8).set (a := ⟨X, 0, none⟩) ((show Row w8 w.heap.size 73 6 A8 (k + 1) c8 _ from o8).box hX7 (by decide)) (.slice A8 (k + 1) c8)
          rw [cells_snoc, List.length_append, HQ.out.1]
          exact h
        · refine RwSs.snoc (fun x hx => ?_) ?_
          · exact (hgrow x (hqs7 x hx)).set (a := ⟨X, 0, none⟩) ((hgrow x (hqs7 x hx)).box hX7 (by decide) (by decide)) _
          · exact (hgrow _ hq7).set (a := ⟨X, 0, none⟩) ((hgrow _ hq7).box hX7 (by decide) (by decide)) _
        · refine HO6.out.2.2.snoc (N := wr.heap.size) HQlt.out ?_
          rintro j (hj | hj)
          · exact HA2k.out j hj
          · exact HFk.out j hj)
      have HX8 := hide (show Box (w8.setCell ⟨X, 0, none⟩ (.slice A8 (k + 1) c8)) X 26 #[.slice A8 (k + 1) c8, .slice A1 ys.length c1] from hX7.set 0 _)
      have HY8 := hide (HY7.out.set (a := ⟨X, 0, none⟩) (HY7.out.box hX7 (by decide)) (.slice A8 (k + 1) c8))
      have HV8 := hide (HV7.out.far (p := ⟨X, 0, none⟩) (Nat.ne_of_lt hVX) (.slice A8 (k + 1) c8))
      have HRR8 := hide (HRR7.out.far (p := ⟨X, 0, none⟩) (Nat.ne_of_lt hRX) (.slice A8 (k + 1) c8))
      have HB8 := hide (HBW7.out.setCell (p := ⟨X, 0, none⟩) (Nat.le_of_lt hVX) (.slice A8 (k + 1) c8))
      have x0 := hX7.cell 0
      have x1 := hX7.cell 1
      have xf0 := hX7.frozen 0
      simp only [List.getElem?_toArray, List.getElem?_cons_zero, List.getElem?_cons_succ] at x0 x1
      have hxl8 := hX7.lt
      clear o8 g8 k8 hgrow hq7 hqs7 hX7 HX7 HV7 HRR7 HY7 HBW7 HSEC HW7 HO6 HY6 HV6 HRR6 HBW6 HX6 HSS6 u0 u1 u2 u3 u4 u5 s0 s1 s2 s3 s4 s5 sf5
      go_wp2_with fail
      refine ⟨⟨k + 1, qs ++ [⟨p.nm, p.kd, p.al, A2, c2, p.zs, p.sz, A5, c5, p.fs⟩], A8, c8, by omega, by simp [HQ.out.1], by go_num, ?_, HOW.out, HX8.out, HY8.out, HV8.out, HRR8.out, HB8.out⟩, by simp [intOf]; omega⟩
      rw [← HD.out, List.map_append, List.map_append]
      rfl
    · have e : k = ps.length := by omega
      have hqd' : qs.map SV.d = ps.map SV.d := by rw [hqd, List.take_of_length_le (by omega)]
      have HOO := hide (show OwnO wr w.heap.size ⟨Aq, cq, qs, A1, c1, ys⟩ from ⟨ho, hrow⟩)
      have HDD := hide (show OV.d ⟨Aq, cq, qs, A1, c1, ys⟩ = OV.d ⟨A, c, ps, Y, yc, ys⟩ by simp only [OV.d, hqd'])
      have HNE := hide (show ∀ j, oblk ⟨Aq, cq, qs, A1, c1, ys⟩ j → j ≠ R from by
        rintro j ((hj | ⟨x, hx, hj⟩) | hj)
        · exact ho.1.box hrr (by decide) j hj
        · exact (ho.2.1 x hx).box hrr (by decide) (by decide) j hj
        · exact hrow.box hrr (by decide) j hj)
      have HFIN := hide (CObject.ret_object HOO.out HB.out HNE.out (Nat.le_of_lt hVR))
      rw [HDD.out] at HFIN
      have y0 := hrr.cell 0
      have y1 := hrr.cell 1
      have yf0 := hrr.frozen 0
      have yf1 := hrr.frozen 1
      have hrl := hrr.lt
      simp only [List.getElem?_toArray, List.getElem?_cons_zero, List.getElem?_cons_succ] at y0 y1
      have kk := (HRR.out.set 0 (.slice Aq qs.length cq)).set 1 (.slice A1 ys.length c1)
      have k0 := kk.cell 0
      have k1 := kk.cell 1
      simp only [List.setIfInBounds_toArray, List.set_cons_zero, List.set_cons_succ, List.getElem?_toArray, List.getElem?_cons_zero, List.getElem?_cons_succ] at k0 k1
      clear kk ho hx hrow hv hrr hb hqd hqd' e
      subst hql
      go_wp2_with fail
      exact bodyPost_ret (v := OV.v ⟨Aq, cq, qs, A1, c1, ys⟩) (by simp [results, Try.results48, go_sem, OV.v, k0, k1]) rfl HFIN.out
end Go.Proofs.Ytmglgjchemecjaa.CCopyI
/- Stores into an object of one's own: a byte, a fixup's To, a symbol. -/
namespace Go.Proofs.Ytmglgjchemecjaa.BStore
set_option maxRecDepth 200000
open Go.ChangeShapes Go.WideShapes Go.ChangeAt Go.RowKit Kit CFixups CSymbols PObj BObj CMarkRows
theorem own_of {w : World} {base : Nat} {e : TypeId} {size n c : Nat} {A : Option Addr} {xs : List Value} (h : Row w base e size A n c xs) (hn : 0 < n) :
    ∃ g, A = some ⟨g, 0, none⟩ ∧ base ≤ g ∧ g < w.heap.size ∧ blk A c = some g ∧ w.ownsRow base e size (.slice (some ⟨g, 0, none⟩) n c) n xs := by
  have hc : c ≠ 0 := by
    have := h.cap.1
    omega
  have hown : w.ownsRow base e size (.slice A n c) n xs := h.elim (fun h => absurd h.2.1 hc) id
  rcases hown.2 with ⟨hv, h0⟩ | ⟨g, cap, c', hv, hN, _⟩
  · omega
  · injection hv with hA
    subst hA
    have hb : blk (some ⟨g, 0, none⟩) c = some g := by
      unfold blk
      rw [if_neg hc]
      rfl
    exact ⟨g, rfl, hN, (h.lt g hb).2, hb, hown⟩
/-- One section's rows turn, all else stays. -/
theorem OwnO.swap {w w' : World} {base c yc : Nat} {A Y : Option Addr} {l1 l2 : List SV} {q : SV} {ys : List YD} (h : OwnO w base ⟨A, c, l1 ++ q :: l2, Y, yc, ys⟩) (q' : SV)
    (hs : secC q' = secC q) (h1 : q'.A = q.A) (h2 : q'.c = q.c) (h3 : q'.F = q.F) (h4 : q'.fc = q.fc) (hq' : RwS w' base q') (g : Nat) (hg : sblk q g) (hk : ∀ k, k ≠ g → w'.heap[k]? = w.heap[k]?) :
    OwnO w' base ⟨A, c, l1 ++ q' :: l2, Y, yc, ys⟩ := by
  obtain ⟨⟨hrow, hrw, hpw⟩, hy⟩ := h
  simp only at hrow hrw hpw hy
  have hq := hrw q (by simp)
  unfold PwSs at hpw
  obtain ⟨p1, p2, p3⟩ := List.pairwise_append.1 hpw
  obtain ⟨p4, p5⟩ := List.pairwise_cons.1 p2
  have happ : ∀ x, RwS w base x → (ApS x q ∨ ApS q x) → RwS w' base x := by
    rintro x hx ha
    refine ⟨hx.1.keep fun k hb => hk k ?_, hx.2.keep fun k hb => hk k ?_⟩
    · rintro rfl
      rcases hg with hg | hg
      · rcases ha with ha | ha
        · exact ha.1 _ hb hg
        · exact ha.1 _ hg hb
      · exact apartT hx.1 hq.2 (by decide) _ hb hg
    · rintro rfl
      rcases hg with hg | hg
      · exact apartT hx.2 hq.1 (by decide) _ hb hg
      · rcases ha with ha | ha
        · exact ha.2 _ hb hg
        · exact ha.2 _ hg hb
  have hap : ∀ x, (ApS x q' ↔ ApS x q) ∧ (ApS q' x ↔ ApS q x) := fun x => by
    unfold ApS
    rw [h1, h2, h3, h4]
    exact ⟨Iff.rfl, Iff.rfl⟩
  refine ⟨⟨?_, ?_, ?_⟩, ?_⟩
  · have e1 : cellsOf secC (l1 ++ q' :: l2) = cellsOf secC (l1 ++ q :: l2) := by simp [cellsOf, hs]
    have e2 : (l1 ++ q' :: l2).length = (l1 ++ q :: l2).length := by simp
    show Row w' base _ 6 A (l1 ++ q' :: l2).length c (cellsOf secC (l1 ++ q' :: l2))
    rw [e1, e2]
    refine hrow.keep fun k hb => hk k ?_
    rintro rfl
    rcases hg with hg | hg
    · exact apartT hrow hq.1 (by decide) _ hb hg
    · exact apartT hrow hq.2 (by decide) _ hb hg
  · intro x hx
    rcases List.mem_append.1 hx with hx | hx
    · exact happ x (hrw x (by simp [hx])) (.inl (p3 x hx q (List.mem_cons_self ..)))
    · rcases List.mem_cons.1 hx with rfl | hx
      · exact hq'
      · exact happ x (hrw x (by simp [hx])) (.inr (p4 x hx))
  · show (l1 ++ q' :: l2).Pairwise ApS
    refine List.pairwise_append.2 ⟨p1, List.pairwise_cons.2 ⟨fun x hx => (hap x).2.2 (p4 x hx), p5⟩, fun a ha b hb => ?_⟩
    rcases List.mem_cons.1 hb with rfl | hb
    · exact (hap a).1.2 (p3 a ha q (List.mem_cons_self ..))
    · exact p3 a ha b (List.mem_cons_of_mem _ hb)
  · show Row w' base _ 4 Y ys.length yc _
    refine hy.keep fun k hb => hk k ?_
    rintro rfl
    rcases hg with hg | hg
    · exact apartT hy hq.1 (by decide) _ hb hg
    · exact apartT hy hq.2 (by decide) _ hb hg
/-- The block of a section's row is none of another type's box. -/
theorem setInts8 (l : List Int) (j : Nat) (x : Int) : (ints .u8 l).set j (.int .u8 x) = ints .u8 (l.set j x) := by simp [ints, List.map_set]
theorem OwnO.storeB {w : World} {base c yc : Nat} {A Y : Option Addr} {l1 l2 : List SV} {q : SV} {ys : List YD} (h : OwnO w base ⟨A, c, l1 ++ q :: l2, Y, yc, ys⟩) {g : Nat} (hA : q.A = some ⟨g, 0, none⟩) (i : Nat) (hi : i < q.zs.length) (x : Int) :
    OwnO (w.setCell ⟨g, i, none⟩ (.int .u8 x)) base ⟨A, c, l1 ++ { q with zs := q.zs.set i x } :: l2, Y, yc, ys⟩ := by
  have hq : RwS w base q := h.1.2.1 q (by simp)
  obtain ⟨g', hA', _, _, hb, hown⟩ := own_of hq.1 (by omega)
  rw [hA] at hA'
  simp only [Option.some.injEq, Addr.mk.injEq, and_true] at hA'
  subst hA'
  refine OwnO.swap h { q with zs := q.zs.set i x } (by simp [secC]) rfl rfl rfl rfl ⟨?_, ?_⟩ g (.inl hb) (fun k hk => Below.heap_setCell _ _ _ k hk)
  · refine .inr ?_
    show (w.setCell _ _).ownsRow base _ 1 (.slice q.A (q.zs.set i x).length q.c) (q.zs.set i x).length (ints .u8 (q.zs.set i x))
    rw [List.length_set, ← setInts8, hA]
    exact (hown.stored i _).1
  · exact hq.2.set (a := ⟨g, i, none⟩) (fun k hk e => apartT hq.2 hq.1 (by decide) k hk (by rw [hb, e])) _
theorem setFix (l : List FD) (j : Nat) (z : FD) (hz : l[j]? = some z) (x : Int) : (cellsOf fixupC l).set (j * 4 + 2) (.int .i64 x) = cellsOf fixupC (l.set j (z.1, z.2.1, x, z.2.2.2)) := by
  induction l generalizing j with
  | nil => cases hz
  | cons a l ih =>
    have hc : ∀ u (l : List FD), cellsOf fixupC (u :: l) = fixupC u ++ cellsOf fixupC l := fun u l => by simp [cellsOf]
    cases j with
    | zero =>
      simp only [List.getElem?_cons_zero, Option.some.injEq] at hz
      subst hz
      simp [hc, fixupC]
    | succ j =>
      have e : (j + 1) * 4 + 2 = (fixupC a).length + (j * 4 + 2) := by rw [fixupC_len]; omega
      rw [hc, List.set_cons_succ, hc, e, List.set_append_right _ _ (by omega), Nat.add_sub_cancel_left]
      rw [ih j (by simpa using hz)]
theorem OwnO.storeF {w : World} {base c yc : Nat} {A Y : Option Addr} {l1 l2 : List SV} {q : SV} {ys : List YD} (h : OwnO w base ⟨A, c, l1 ++ q :: l2, Y, yc, ys⟩) {g : Nat} (hF : q.F = some ⟨g, 0, none⟩) (i : Nat) (z : FD) (hz : q.fs[i]? = some z) (x : Int) :
    OwnO (w.setCell ⟨g, i * 4 + 2, none⟩ (.int .i64 x)) base ⟨A, c, l1 ++ { q with fs := q.fs.set i (z.1, z.2.1, x, z.2.2.2) } :: l2, Y, yc, ys⟩ := by
  have hq : RwS w base q := h.1.2.1 q (by simp)
  have hi : i < q.fs.length := (List.getElem?_eq_some_iff.1 hz).1
  obtain ⟨g', hF', _, _, hb, hown⟩ := own_of hq.2 (by omega)
  rw [hF] at hF'
  simp only [Option.some.injEq, Addr.mk.injEq, and_true] at hF'
  subst hF'
  refine OwnO.swap h { q with fs := q.fs.set i (z.1, z.2.1, x, z.2.2.2) } (by simp [secC]) rfl rfl rfl rfl ⟨?_, ?_⟩ g (.inr hb) (fun k hk => Below.heap_setCell _ _ _ k hk)
  · exact hq.1.set (a := ⟨g, i * 4 + 2, none⟩) (fun k hk e => apartT hq.1 hq.2 (by decide) k hk (by rw [hb, e])) _
  · refine .inr ?_
    show (w.setCell _ _).ownsRow base _ 4 (.slice q.F (q.fs.set i (z.1, z.2.1, x, z.2.2.2)).length q.fc) (q.fs.set i (z.1, z.2.1, x, z.2.2.2)).length (cellsOf fixupC (q.fs.set i (z.1, z.2.1, x, z.2.2.2)))
    rw [List.length_set, ← setFix _ _ _ hz, hF]
    exact (hown.stored (i * 4 + 2) _).1
theorem setSym (l : List YD) (j : Nat) (hj : j < l.length) (z : YD) : ((((cellsOf symbolC l).set (j * 4) (.string z.1)).set (j * 4 + 1) (.int .i64 z.2.1)).set (j * 4 + 2) (.int .i64 z.2.2.1)).set (j * 4 + 3) (.int .i64 z.2.2.2) = cellsOf symbolC (l.set j z) := by
  induction l generalizing j with
  | nil => cases hj
  | cons a l ih =>
    have hc : ∀ u (l : List YD), cellsOf symbolC (u :: l) = symbolC u ++ cellsOf symbolC l := fun u l => by simp [cellsOf]
    cases j with
    | zero => simp [hc, symbolC]
    | succ j =>
      have e : ∀ m, (j + 1) * 4 + m = (symbolC a).length + (j * 4 + m) := fun m => by rw [symbolC_len]; omega
      have e0 : (j + 1) * 4 = (symbolC a).length + (j * 4) := by rw [symbolC_len]; omega
      rw [hc, List.set_cons_succ, hc, e, e, e, e0, List.set_append_right _ _ (by omega), Nat.add_sub_cancel_left, List.set_append_right _ _ (by omega), Nat.add_sub_cancel_left, List.set_append_right _ _ (by omega), Nat.add_sub_cancel_left, List.set_append_right _ _ (by omega), Nat.add_sub_cancel_left]
      rw [ih j (by simpa using hj)]
/-- A symbol put in place. -/
def putY (w : World) (g i : Nat) (z : YD) : World := (((w.setCell ⟨g, i, none⟩ (.string z.1)).setCell ⟨g, i + 1, none⟩ (.int .i64 z.2.1)).setCell ⟨g, i + 2, none⟩ (.int .i64 z.2.2.1)).setCell ⟨g, i + 3, none⟩ (.int .i64 z.2.2.2)
theorem putY_block (w : World) (g i : Nat) (z : YD) (k : Nat) (hk : k ≠ g) : (putY w g i z).heap[k]? = w.heap[k]? := by
  unfold putY
  rw [Below.heap_setCell _ _ _ k hk, Below.heap_setCell _ _ _ k hk, Below.heap_setCell _ _ _ k hk, Below.heap_setCell _ _ _ k hk]
theorem putY_below {B : Nat} {a w : World} {g i : Nat} {z : YD} (h : Below B a w) (hg : B ≤ g) : Below B a (putY w g i z) :=
  (((h.setCell (p := ⟨g, i, none⟩) hg _).setCell (p := ⟨g, i + 1, none⟩) hg _).setCell (p := ⟨g, i + 2, none⟩) hg _).setCell (p := ⟨g, i + 3, none⟩) hg _
theorem OwnO.storeY {w : World} {base c yc : Nat} {A : Option Addr} {ps : List SV} {g : Nat} {ys : List YD} (h : OwnO w base ⟨A, c, ps, some ⟨g, 0, none⟩, yc, ys⟩) (i : Nat) (hi : i < ys.length) (z : YD) :
    OwnO (putY w g (i * 4) z) base ⟨A, c, ps, some ⟨g, 0, none⟩, yc, ys.set i z⟩ := by
  obtain ⟨⟨hrow, hrw, hpw⟩, hy⟩ := h
  simp only at hrow hrw hpw hy
  obtain ⟨g', hA', _, _, hb, hown⟩ := own_of hy (by omega)
  simp only [Option.some.injEq, Addr.mk.injEq, and_true] at hA'
  subst hA'
  have hkeep := putY_block w g (i * 4) z
  refine ⟨⟨hrow.keep fun k hk => hkeep k ?_, fun p hp => ⟨(hrw p hp).1.keep fun k hk => hkeep k ?_, (hrw p hp).2.keep fun k hk => hkeep k ?_⟩, hpw⟩, ?_⟩
  · rintro rfl
    exact apartT hrow hy (by decide) _ hk hb
  · rintro rfl
    exact apartT (hrw p hp).1 hy (by decide) _ hk hb
  · rintro rfl
    exact apartT (hrw p hp).2 hy (by decide) _ hk hb
  · refine .inr ?_
    show (putY w g (i * 4) z).ownsRow base _ 4 (.slice (some ⟨g, 0, none⟩) (ys.set i z).length yc) (ys.set i z).length (cellsOf symbolC (ys.set i z))
    rw [List.length_set, ← setSym _ _ hi]
    exact ((((hown.stored (i * 4) _).1.stored (i * 4 + 1) _).1.stored (i * 4 + 2) _).1.stored (i * 4 + 3) _).1
/-- A box of another type than the rows' stays when the object is stored into. -/
theorem cell_own {w : World} {base : Nat} {e : TypeId} {size n c : Nat} {g : Nat} {xs : List Value} (h : w.ownsRow base e size (.slice (some ⟨g, 0, none⟩) n c) n xs) : ∃ cs, Box w g e cs := box_of_own h
end Go.Proofs.Ytmglgjchemecjaa.BStore
/- Clearing what fixups fill: plain; and the stores that do it. -/
namespace Go.Proofs.Ytmglgjchemecjaa.PClear
set_option maxRecDepth 200000
open Go.ChangeShapes Go.WideShapes Go.ChangeAt Go.RowKit Kit CFixups CSymbols PObj BObj CMarkRows PValid BStore CCovers PWarn
def setz (zs : List Int) (a : Nat) : Nat → List Int
  | 0 => zs
  | n + 1 => (setz zs a n).set (a + n) 0
theorem setz_len (zs : List Int) (a : Nat) : ∀ n, (setz zs a n).length = zs.length
  | 0 => rfl
  | n + 1 => by rw [setz, List.length_set, setz_len zs a n]
def clr (zs : List Int) (f : FD) : List Int := setz zs f.1.toNat (wide f.2.1).toNat
theorem clr_len (zs : List Int) (f : FD) : (clr zs f).length = zs.length := setz_len _ _ _
def clrs (zs : List Int) (fs : List FD) : List Int := fs.foldl clr zs
theorem clrs_len (fs : List FD) : ∀ zs, (clrs zs fs).length = zs.length := by
  induction fs with
  | nil => intro zs; rfl
  | cons f fs ih => intro zs; rw [clrs, List.foldl_cons, ← clrs, ih, clr_len]
theorem clrs_snoc (zs : List Int) (fs : List FD) (f : FD) : clrs zs (fs ++ [f]) = clr (clrs zs fs) f := by simp [clrs, List.foldl_append]
def clrP (p : SV) (fs : List FD) : SV := { p with zs := clrs p.zs fs }
def clrA (p : SV) : SV := clrP p p.fs
theorem clrP_nil (p : SV) : clrP p [] = p := rfl
theorem clrP_cells (p : SV) (fs : List FD) : secC (clrP p fs) = secC p := by simp [secC, clrP, clrs_len]
def clearS (s : SD) : SD := { s with zs := clrs s.zs s.fs }
def clearD (d : OD) : OD := bif objOk d then ⟨d.ss.map clearS, d.ys⟩ else ⟨[], []⟩
theorem clear_bad {d : OD} (h : objOk d = false) : clearD d = ⟨[], []⟩ := by rw [clearD, h]; rfl
theorem clear_ok {ps : List SV} {ys : List YD} (h : objOk ⟨ps.map SV.d, ys⟩ = true) : clearD ⟨ps.map SV.d, ys⟩ = ⟨(ps.map clrA).map SV.d, ys⟩ := by
  rw [clearD, h, cond_true, List.map_map, List.map_map]
  rfl
/-- What the clearing of a valid object needs. -/
def FxOk (p : SV) : Prop := ∀ f ∈ p.fs, 0 ≤ f.1 ∧ f.1 + wide f.2.1 ≤ p.zs.length ∧ 0 < wide f.2.1
theorem fixes_all {many : Int} {n : Nat} : ∀ {e : Int} {fs : List FD}, 0 ≤ e → fixesOk many n e fs = true → ∀ f ∈ fs, (0 ≤ f.1 ∧ f.1 + wide f.2.1 ≤ n ∧ 0 < wide f.2.1) ∧ 0 ≤ f.2.2.1 ∧ f.2.2.1 < many
  | _, [], _, _, f, hf => by cases hf
  | e, g :: fs, he, h, f, hf => by
    simp only [fixesOk, Bool.and_eq_true] at h
    have hg := fixOk_iff.1 h.1
    have hw := wide_bd g.2.1
    rcases List.mem_cons.1 hf with rfl | hf
    · omega
    · exact fixes_all (by omega) h.2 f hf
theorem sec_all {many : Int} {d : SD} (h : secOk many d = true) : d.fs.length ≤ 6 ∧ d.zs.length ≤ 48 ∧ ∀ f ∈ d.fs, (0 ≤ f.1 ∧ f.1 + wide f.2.1 ≤ d.zs.length ∧ 0 < wide f.2.1) ∧ 0 ≤ f.2.2.1 ∧ f.2.2.1 < many := by
  rw [secOk, Bool.and_eq_true] at h
  obtain ⟨_, h⟩ := h
  split at h
  · simp only [blankOk, Bool.and_eq_true, decide_eq_true_eq] at h
    have : d.fs = [] := List.eq_nil_of_length_eq_zero h.2
    rw [this]
    refine ⟨by simp, by omega, ?_⟩
    intro f hf
    cases hf
  · simp only [bodyOk, Bool.and_eq_true, decide_eq_true_eq] at h
    exact ⟨h.1.2, h.1.1.2, fixes_all (Int.le_refl 0) h.2⟩
theorem obj_all {d : OD} (h : objOk d = true) : d.ss.length ≤ 8 ∧ d.ys.length ≤ 12 ∧ ∀ s ∈ d.ss, s.fs.length ≤ 6 ∧ s.zs.length ≤ 48 ∧ ∀ f ∈ s.fs, (0 ≤ f.1 ∧ f.1 + wide f.2.1 ≤ s.zs.length ∧ 0 < wide f.2.1) ∧ 0 ≤ f.2.2.1 ∧ f.2.2.1 < d.ys.length := by
  simp only [objOk, Bool.and_eq_true, decide_eq_true_eq, List.all_eq_true] at h
  exact ⟨h.1.1.1, h.1.1.2, fun s hs => sec_all (h.1.2 s hs)⟩
/-- A section's cells in the row of sections. -/
theorem row_at {w : World} {B : Nat} {A : Option Addr} {l1 l2 : List SV} {q : SV} (h : RdSs w B A (l1 ++ q :: l2)) :
    ∃ b off, A = some ⟨b, off, none⟩ ∧ b < B ∧ ∀ j u, (secC q)[j]? = some u → w.cell? ⟨b, off + l1.length * 6 + j, none⟩ = some u := by
  obtain ⟨b, off, hA, hb, hc⟩ := h.1.row secC_len (by decide) (show l1.length < (l1 ++ q :: l2).length by simp)
  refine ⟨b, off, hA, hb, fun j u hu => hc j u ?_⟩
  rw [List.getElem_append_right (Nat.le_refl _)]
  simpa using hu
/-- Bytes cleared at once. -/
theorem OwnO.clear {base c yc : Nat} {A Y : Option Addr} {l1 l2 : List SV} {q : SV} {ys : List YD} {g : Nat} (hA : q.A = some ⟨g, 0, none⟩) (a : Nat) :
    ∀ (n : Nat) (w : World), a + n ≤ q.zs.length → OwnO w base ⟨A, c, l1 ++ q :: l2, Y, yc, ys⟩ →
    OwnO (w.setCells g a (List.replicate n (.int .u8 0))) base ⟨A, c, l1 ++ { q with zs := setz q.zs a n } :: l2, Y, yc, ys⟩
  | 0, w, _, h => h
  | n + 1, w, hn, h => by
    rw [List.replicate_succ', ← Lib.setCells_snoc_w, List.length_replicate]
    exact OwnO.storeB (OwnO.clear hA a n w (by omega) h) hA (a + n) (by simp only [setz_len]; omega) 0
theorem clear_block (g : Nat) (k : Nat) (hk : k ≠ g) : ∀ (vs : List Value) (o : Nat) (w : World), (w.setCells g o vs).heap[k]? = w.heap[k]?
  | [], _, _ => rfl
  | v :: vs, o, w => by
    rw [World.setCells, clear_block g k hk vs]
    exact Below.heap_setCell _ _ _ k hk
theorem clear_box {w : World} {X g o : Nat} {t : TypeId} {cs : Array Value} {vs : List Value} (h : Box w X t cs) (hne : X ≠ g) : Box (w.setCells g o vs) X t cs := (clear_block g X hne vs o w).trans h
theorem zero8 (w : World) : (zeroValue 5).run Try.prog w = .ok (.int .u8 0) w := by
  have e : Try.t5.zero = some (.int .u8 0) := by kernel_rfl
  simp [zeroValue, e]
theorem step_clear {ops : Array Oper} {o : Oper} {a : Act} {w : World} {K : Act → World → Prop} {Q : Exit → Act → World → Prop} {E : Prop} (hgd : o.guard = none) (s : Operand)
    (ho : o.op = .call { callee := .builtin .clear, args := #[s], argTypes := #[22] }) (b off n c : Nat) (hs : a.eval s = .slice (some ⟨b, off, none⟩) n c) (hn : 0 < n)
    (hc : ∀ j, j < n → (w.cell? ⟨b, off + j, none⟩).isSome = true) (hf : ∀ j, j < n → w.frozen? ⟨b, off + j, none⟩ = false)
    (h : K (a.put o.dst (.tuple #[])) (w.setCells b off (List.replicate n (.int .u8 0)))) :
    if Region.wanted o (yielded ops a.tmps) = true then Oper.wp Try.prog o a w K Q else E := by
  have hw : Region.wanted o (yielded ops a.tmps) = true := by simp [Region.wanted, hgd]
  rw [if_pos hw]
  have hrun := Lib.run_clear_slice (P := Try.prog) w 22 5 o.type (.int .u8 0) Try.underlying22 zero8 rfl rfl b off n c hn hc hf
  unfold Oper.wp
  simp [execOp, ho, resolve, invoke, builtin, hs, hrun, Result.andThen]
  exact (show K _ _ from by simpa using h)
end Go.Proofs.Ytmglgjchemecjaa.PClear
/- What the walks of exact laws on objects share. -/
namespace Go.Proofs.Ytmglgjchemecjaa.WObj
set_option maxRecDepth 200000
open Go.ChangeShapes Go.WideShapes Go.ChangeAt Go.RowKit Kit CCode CFixups CSymbols PObj BObj PValid CObjValid CSections CObject CObject2 CMarkRows
def sumD (d : OD) : Int := (d.ss.length : Int) + tot d.ss + d.ys.length + toty d.ys
theorem sum_D (o : OV) : sum o = sumD o.d := by simp [sum, sumD, OV.d]
theorem sum_d {o o' : OV} (h : o'.d = o.d) : sum o' = sum o := by rw [sum_D, sum_D, h]
theorem sumD_nonneg (d : OD) : 0 ≤ sumD d := by
  have h1 := tot_nonneg d.ss
  have h2 := toty_nonneg d.ys
  unfold sumD
  omega
theorem fit_own {o : OV} {w : World} {base : Nat} (hs : sum o ≤ 1048576) (ho : OwnO w base o) : Fit o ∧ (∀ p ∈ o.ps, p.zs.length ≤ p.c) := by
  obtain ⟨⟨l1, l2, l3⟩, l4, l5⟩ := sum_lim hs
  have hmx : (1048576 : Nat) ≤ maxLen := by decide
  refine ⟨⟨l1, l2, ho.2.cap.1, fun p hp => ⟨Nat.le_trans (l4 p hp) hmx, (l3 p hp).1, (l3 p hp).2⟩, fun y hy => Nat.le_trans (l5 y hy) hmx⟩, fun p hp => ((ho.1.2.1 p hp).1).cap.1⟩
theorem RdO.call2 {w w' : World} {o : OV} (h : RdO w w.heap.size o) (hb : Below w.heap.size w w') : RdO w' w'.heap.size o := (h.below hb).more hb.size
theorem own_up {w : World} {base b : Nat} {o : OV} (h : OwnO w base o) (hb : ∀ k, oblk o k → b ≤ k) : OwnO w b o :=
  ⟨⟨h.1.1.up (fun k hk => hb k (.inl (.inl hk))), fun p hp => ⟨(h.1.2.1 p hp).1.up (fun k hk => hb k (.inl (.inr ⟨p, hp, .inl hk⟩))), (h.1.2.1 p hp).2.up (fun k hk => hb k (.inl (.inr ⟨p, hp, .inr hk⟩)))⟩, h.1.2.2⟩, h.2.up (fun k hk => hb k (.inr hk))⟩
/-- A mark in the memory of another: the same sum. -/
theorem tot_map {f : SD → SD} (hf : ∀ s, wt (f s) = wt s) : ∀ ds : List SD, tot (ds.map f) = tot ds
  | [] => rfl
  | d :: ds => by
    have := tot_map hf ds
    simp [tot, hf, this]
theorem clear_sum (d : OD) : sumD (PClear.clearD d) ≤ sumD d := by
  have h0 := sumD_nonneg d
  unfold PClear.clearD
  cases objOk d
  · simpa [sumD, tot, toty] using h0
  · simp only [sumD, cond_true, List.length_map]
    rw [tot_map (fun s => by simp [wt, PClear.clearS, PClear.clrs_len])]
    exact Int.le_refl _
end Go.Proofs.Ytmglgjchemecjaa.WObj
/- The order of symbols; plain. -/
namespace Go.Proofs.Ytmglgjchemecjaa.PSort
set_option maxRecDepth 200000
open Go.ChangeShapes Go.WideShapes Go.ChangeAt Go.RowKit Kit CFixups CSymbols PObj BObj PValid PWarn PClear WObj
def sl (a b : ByteArray) : Bool := Op.bytesLess a.toList b.toList
def loc (y : YD) : Bool := y.2.1 == 0
def bef (a b : YD) : Bool := bif loc a != loc b then loc a else sl a.1 b.1
def cmpS (a b : ByteArray) : Int := if sl a b = true then -1 else if (a.toList == b.toList) = true then 0 else 1
def grp (y : YD) : Int := if loc y = true then 0 else 1
def cmpN (a b : Int) : Int := if a < b then -1 else if b < a then 1 else 0
def cmpY (a b : YD) : Int := if cmpN (grp a) (grp b) ≠ 0 then cmpN (grp a) (grp b) else cmpS a.1 b.1
theorem cmp_lt (a b : YD) : decide (cmpY a b < 0) = bef a b := by
  unfold cmpY bef grp cmpN cmpS
  cases loc a <;> cases loc b <;> simp
  cases sl a.1 b.1
  · simp
    split <;> simp
  · simp
  · cases sl a.1 b.1
    · simp
      split <;> simp
    · simp
theorem cmp_bd (a b : YD) : -1 ≤ cmpY a b ∧ cmpY a b ≤ 1 := by
  unfold cmpY cmpN cmpS
  split <;> (repeat' split) <;> omega
section
variable (bf : Nat → Nat → Bool)
def pos (L : List Nat) (x : Nat) : Nat → Nat
  | 0 => 0
  | n + 1 => if bf x (L.getD n 0) = true then pos L x n else n + 1
def ins (L : List Nat) (x : Nat) : List Nat := L.take (pos bf L x L.length) ++ x :: L.drop (pos bf L x L.length)
def ord : Nat → List Nat
  | 0 => []
  | k + 1 => ins bf (ord k) k
theorem ins_perm (L : List Nat) (x : Nat) : (ins bf L x).Perm (x :: L) := by
  unfold ins
  refine List.perm_middle.trans (List.Perm.cons x ?_)
  rw [List.take_append_drop]
theorem ord_perm : ∀ n, (ord bf n).Perm (List.range n)
  | 0 => by simp [ord]
  | n + 1 => by
    rw [ord, List.range_succ]
    refine (ins_perm bf _ n).trans ((List.Perm.cons n (ord_perm n)).trans ?_)
    exact (List.perm_append_comm (l₁ := [n]) (l₂ := List.range n))
theorem ord_len (n : Nat) : (ord bf n).length = n := by rw [(ord_perm bf n).length_eq, List.length_range]
theorem ord_lt {n x : Nat} (h : x ∈ ord bf n) : x < n := List.mem_range.1 ((ord_perm bf n).mem_iff.1 h)
theorem ord_mem {n x : Nat} (h : x < n) : x ∈ ord bf n := (ord_perm bf n).mem_iff.2 (List.mem_range.2 h)
theorem ord_nodup (n : Nat) : (ord bf n).Nodup := (ord_perm bf n).nodup_iff.2 List.nodup_range
theorem ord_get {n k : Nat} (h : k < n) : (ord bf n).getD k 0 < n := by
  have hk : k < (ord bf n).length := by rw [ord_len]; exact h
  rw [List.getD_eq_getElem?_getD, List.getElem?_eq_getElem hk]
  exact ord_lt bf (List.getElem_mem hk)
end
/-- One swap of the insertion sort. -/
theorem swap_row (L : List Nat) (x j : Nat) (rest : List Nat) (h : j < L.length) : ((L.take (j + 1) ++ x :: L.drop (j + 1) ++ rest).set (j + 1) (L.getD j 0)).set j x = L.take j ++ x :: L.drop j ++ rest := by
  have h1 : L.take (j + 1) = L.take j ++ [L[j]] := take_succ h
  have h2 : L.drop j = L[j] :: L.drop (j + 1) := List.drop_eq_getElem_cons h
  have h3 : (L.take j).length = j := by rw [List.length_take]; omega
  have h4 : L.getD j 0 = L[j] := by rw [List.getD_eq_getElem?_getD, List.getElem?_eq_getElem h]; rfl
  rw [h1, h2, h4]
  generalize L.take j = T at *
  subst h3
  simp [List.set_append]
  rw [h2]
  rfl
theorem row_x (L : List Nat) (x j : Nat) (rest : List Nat) (h : j ≤ L.length) : (L.take j ++ x :: L.drop j ++ rest).getD j 0 = x := by
  have h3 : (L.take j).length = j := by rw [List.length_take]; omega
  rw [List.getD_eq_getElem?_getD, List.append_assoc, List.getElem?_append_right (by omega), h3]
  simp
theorem row_p (L : List Nat) (x j : Nat) (rest : List Nat) (h : j < L.length) : (L.take (j + 1) ++ x :: L.drop (j + 1) ++ rest).getD j 0 = L.getD j 0 := by
  have h3 : (L.take (j + 1)).length = j + 1 := by rw [List.length_take]; omega
  rw [List.getD_eq_getElem?_getD, List.append_assoc, List.getElem?_append_left (by omega), List.getElem?_take_of_lt (by omega), ← List.getD_eq_getElem?_getD]
def bfY (ys : List YD) (i j : Nat) : Bool := bef (ys.getD i dY) (ys.getD j dY)
def order (ys : List YD) : List Nat := ord (bfY ys) ys.length
def renum (L : List Nat) (f : FD) : FD := (f.1, f.2.1, ((L.idxOf f.2.2.1.toNat : Nat) : Int), f.2.2.2)
def sortS (L : List Nat) (s : SD) : SD := { s with fs := s.fs.map (renum L) }
def sortD (d : OD) : OD := bif objOk d then ⟨d.ss.map (sortS (order d.ys)), (order d.ys).map fun i => d.ys.getD i dY⟩ else ⟨[], []⟩
theorem toty_perm {a b : List YD} (h : a.Perm b) : toty a = toty b := by
  induction h with
  | nil => rfl
  | cons x _ ih => simp [toty, ih]
  | swap x y l => simp only [toty]; omega
  | trans _ _ h1 h2 => exact h1.trans h2
theorem map_range (ys : List YD) : (List.range ys.length).map (fun i => ys.getD i dY) = ys := by
  apply List.ext_getElem
  · simp
  · intro i h1 h2
    simp [List.getD_eq_getElem?_getD, List.getElem?_eq_getElem h2]
theorem sort_sum (d : OD) : sumD (sortD d) ≤ sumD d := by
  have h0 := sumD_nonneg d
  unfold sortD
  cases objOk d
  · simpa [sumD, tot, toty] using h0
  · simp only [sumD, cond_true, List.length_map]
    rw [tot_map (fun s => by simp [wt, sortS]), show (order d.ys).length = d.ys.length from ord_len _ _]
    have h := (ord_perm (bfY d.ys) d.ys.length).map (fun i => d.ys.getD i dY)
    rw [map_range] at h
    rw [toty_perm (show ((order d.ys).map fun i => d.ys.getD i dY).Perm d.ys from h)]
    exact Int.le_refl _
theorem sort_bad {d : OD} (h : objOk d = false) : sortD d = ⟨[], []⟩ := by rw [sortD, h]; rfl
/-- A section with its fixups numbered anew. -/
def renP (L : List Nat) (p : SV) : SV := { p with fs := p.fs.map (renum L) }
def renJ (L : List Nat) (p : SV) (j : Nat) : SV := { p with fs := (p.fs.take j).map (renum L) ++ p.fs.drop j }
theorem renJ_zero (L : List Nat) (p : SV) : renJ L p 0 = p := by simp [renJ]
theorem renJ_all (L : List Nat) (p : SV) {j : Nat} (h : p.fs.length ≤ j) : renJ L p j = renP L p := by
  simp [renJ, renP, List.take_of_length_le h, List.drop_of_length_le h]
theorem renJ_len (L : List Nat) (p : SV) (j : Nat) : (renJ L p j).fs.length = p.fs.length := by simp [renJ]; omega
theorem renJ_cells (L : List Nat) (p : SV) (j : Nat) : secC (renJ L p j) = secC p := by
  simp only [secC, renJ_len]
  rfl
theorem renJ_at (L : List Nat) (p : SV) (j : Nat) (h : j < p.fs.length) : (renJ L p j).fs[j]? = some p.fs[j] := by
  simp only [renJ]
  rw [List.getElem?_append_right (by simp; omega)]
  simp [List.length_take, Nat.min_eq_left (Nat.le_of_lt h), List.getElem?_eq_getElem h]
theorem renJ_succ (L : List Nat) (p : SV) (j : Nat) (h : j < p.fs.length) : renJ L p (j + 1) = { renJ L p j with fs := (renJ L p j).fs.set j (renum L p.fs[j]) } := by
  have h1 : p.fs.take (j + 1) = p.fs.take j ++ [p.fs[j]] := take_succ h
  have h2 : p.fs.drop j = p.fs[j] :: p.fs.drop (j + 1) := List.drop_eq_getElem_cons h
  have h3 : (p.fs.take j).length = j := by rw [List.length_take]; omega
  simp only [renJ, SV.mk.injEq, true_and]
  rw [h1, h2]
  generalize p.fs.take j = T at *
  subst h3
  simp [List.set_append]
  rw [h2]
  rfl
theorem sort_ok {ps : List SV} {ys : List YD} (h : objOk ⟨ps.map SV.d, ys⟩ = true) : sortD ⟨ps.map SV.d, ys⟩ = ⟨(ps.map (renP (order ys))).map SV.d, (order ys).map fun i => ys.getD i dY⟩ := by
  rw [sortD, h, cond_true, List.map_map, List.map_map]
  rfl
end Go.Proofs.Ytmglgjchemecjaa.PSort
/- cmp.Compare of ints and strings, cmp.Or of two ints, slices.Index of ints, l22Before. -/
namespace Go.Proofs.Ytmglgjchemecjaa.CCmp
set_option maxRecDepth 200000
open Go.ChangeShapes Go.WideShapes Go.ChangeAt Go.RowKit Kit CFixups CSymbols PObj BObj PSort
theorem nanS_any (a : ByteArray) (w : World) : Calls Try.prog 130 #[.string a] w (Pure (.bool false) w) := by
  go_enter Try.func130, Try.ntmps130
  go_wp2
  go_ret
  exact ⟨by simp, rfl⟩
theorem nanI_any (a : Int) (w : World) : Calls Try.prog 129 #[.int .i64 a] w (Pure (.bool false) w) := by
  go_enter Try.func129, Try.ntmps129
  go_wp2
  go_ret
  exact ⟨by simp, rfl⟩
theorem compareI_any (a b : Int) (w : World) : Calls Try.prog 70 #[.int .i64 a, .int .i64 b] w (Pure (.int .i64 (cmpN a b)) w) := by
  go_enter Try.func70, Try.ntmps70
  go_wp2_with fail
  refine (nanI_any a w).mono ?_
  rintro e w1 ⟨rfl, rfl⟩
  go_wp2_with fail
  refine (nanI_any b w).mono ?_
  rintro e w1 ⟨rfl, rfl⟩
  by_cases h1 : a < b
  · have HV := hide (show cmpN a b = -1 by rw [cmpN, if_pos h1])
    go_wp2_with fail
    go_ret
    exact ⟨by rw [HV.out]; rfl, rfl⟩
  · by_cases h2 : b < a
    · have HV := hide (show cmpN a b = 1 by rw [cmpN, if_neg h1, if_pos h2])
      go_wp2_with fail
      go_ret
      exact ⟨by rw [HV.out]; rfl, rfl⟩
    · have HV := hide (show cmpN a b = 0 by rw [cmpN, if_neg h1, if_neg h2])
      go_wp2_with fail
      go_ret
      exact ⟨by rw [HV.out]; rfl, rfl⟩
theorem compareS_any (a b : ByteArray) (w : World) : Calls Try.prog 71 #[.string a, .string b] w (Pure (.int .i64 (cmpS a b)) w) := by
  go_enter Try.func71, Try.ntmps71
  go_wp2_with fail
  refine (nanS_any a w).mono ?_
  rintro e w1 ⟨rfl, rfl⟩
  go_wp2_with fail
  refine (nanS_any b w).mono ?_
  rintro e w1 ⟨rfl, rfl⟩
  cases h1 : Op.bytesLess a.toList b.toList
  · cases h2 : (a.toList == b.toList)
    · have HV := hide (show cmpS a b = 1 by simp only [cmpS, sl, h1, h2]; rfl)
      go_wp2_with fail
      go_ret
      exact ⟨by rw [HV.out]; rfl, rfl⟩
    · have HV := hide (show cmpS a b = 0 by simp only [cmpS, sl, h1, h2]; rfl)
      go_wp2_with fail
      go_ret
      exact ⟨by rw [HV.out]; rfl, rfl⟩
  · have HV := hide (show cmpS a b = -1 by simp only [cmpS, sl, h1]; rfl)
    go_wp2_with fail
    go_ret
    exact ⟨by rw [HV.out]; rfl, rfl⟩
def or2 (a b : Int) : Int := if a ≠ 0 then a else b
theorem or_any (b off c : Nat) (x y : Int) (w : World) (h0 : w.cell? ⟨b, off, none⟩ = some (.int .i64 x)) (h1 : w.cell? ⟨b, off + 1, none⟩ = some (.int .i64 y)) :
    Calls Try.prog 69 #[.slice (some ⟨b, off, none⟩) 2 c] w (Pure (.int .i64 (or2 x y)) w) := by
  have HH := hide (And.intro h0 h1)
  clear h0 h1
  go_enter Try.func69, Try.ntmps69
  go_wp2
  go_loop [8] (fun i => ∃ k : Nat, k ≤ 2 ∧ i = .int .i64 k ∧ (0 < k → x = 0) ∧ (1 < k → y = 0)) (fun i => 2 - (intOf i).toNat)
  case atStart => exact ⟨0, Nat.zero_le _, rfl, fun h => by omega, fun h => by omega⟩
  case round =>
    obtain ⟨k, hk, rfl, hx, hy⟩ := hrel
    have hk : k = 0 ∨ k = 1 ∨ k = 2 := by omega
    have hh0 := HH.out.1
    have hh1 := HH.out.2
    rcases hk with rfl | rfl | rfl
    · by_cases hz : x = 0
      · subst hz
        go_wp2_with fail
        go_round
        case rel => exact ⟨1, by omega, by go_num, fun _ => by trivial, fun h => by omega⟩
        case measure => simp [intOf]
      · have e1 : (x != 0) = true := bne_iff_ne.2 hz
        have HV := hide (show or2 x y = x by rw [or2, if_pos hz])
        clear hx hy hz
        go_wp2_with fail
        go_ret
        exact ⟨by rw [HV.out]; rfl, rfl⟩
    · have hx0 := hx (by omega)
      subst hx0
      have HV := hide (show or2 0 y = y by rw [or2, if_neg (by simp)])
      by_cases hz : y = 0
      · subst hz
        clear hx hy
        go_wp2_with fail
        go_round
        case rel => exact ⟨2, by omega, by go_num, fun _ => by trivial, fun _ => by trivial⟩
        case measure => simp [intOf]
      · have e1 : (y != 0) = true := bne_iff_ne.2 hz
        clear hx hy hz
        go_wp2_with fail
        go_ret
        exact ⟨by rw [HV.out]; rfl, rfl⟩
    · have hx0 := hx (by omega)
      have hy0 := hy (by omega)
      subst hx0 hy0
      clear hx hy
      go_wp2_with fail
      go_ret
      exact ⟨rfl, rfl⟩
def toI (L : List Nat) : List Int := L.map fun (n : Nat) => (n : Int)
@[simp] theorem toI_len (L : List Nat) : (toI L).length = L.length := by simp [toI]
/-- slices.Index of ints. -/
theorem index_any (A : Option Addr) (L : List Nat) (c : Nat) (x : Nat) (w : World) (hr : Rd w w.heap.size A (ints .i64 (toI L))) (hm : L.length ≤ 1000000) (hx : x ∈ L) :
    Calls Try.prog 72 #[.slice A L.length c, .int .i64 x] w (Pure (.int .i64 (L.idxOf x : Nat)) w) := by
  have HR := hide hr
  have HX := hide hx
  clear hr hx
  go_enter Try.func72, Try.ntmps72
  go_wp2
  go_loop [8] (fun i => ∃ k : Nat, k ≤ L.length ∧ i = .int .i64 k ∧ x ∉ L.take k) (fun i => L.length - (intOf i).toNat)
  case atStart => exact ⟨0, Nat.zero_le _, rfl, by simp⟩
  case round =>
    obtain ⟨k, hk, rfl, hno⟩ := hrel
    by_cases hlt : k < L.length
    · obtain ⟨b, off, hA, hb, hc0⟩ := HR.out.int (show k < (toI L).length by simpa using hlt)
      have hc : w.cell? ⟨b, off + k, none⟩ = some (.int .i64 (L[k] : Nat)) := by simpa [toI] using hc0
      clear hc0
      subst hA
      have HS := hide (show L[k] ≠ x → x ∉ L.take (k + 1) from fun h => by
        rw [take_succ hlt, List.mem_append, List.mem_singleton]
        rintro (h' | h')
        · exact hno h'
        · exact h h'.symm)
      have HT := hide (show L[k] = x → L.idxOf x = k from fun h => by
        have e : L = L.take k ++ L[k] :: L.drop (k + 1) := by rw [← List.drop_eq_getElem_cons hlt, List.take_append_drop]
        rw [e, List.idxOf_append, if_neg hno, List.length_take, h]
        simp
        omega)
      clear hno
      generalize L[k] = y at *
      by_cases hy : y = x
      · have HV := hide (HT.out hy)
        clear HS HT
        subst hy
        go_wp2_with fail
        go_ret
        exact ⟨by rw [HV.out]; rfl, rfl⟩
      · have HV := hide (HS.out hy)
        have e1 : ((x : Int) == (y : Int)) = false := by
          rw [beq_eq_false_iff_ne]
          omega
        clear HS HT hy
        go_wp2_with fail
        go_round
        case rel => exact ⟨k + 1, by omega, by go_num, HV.out⟩
        case measure => simp [intOf]; omega
    · exact absurd HX.out (by rwa [List.take_of_length_le (by omega)] at hno)
theorem l22Before_any (a b : YD) (w : World) :
    Calls Try.prog 65 #[.agg #[.string a.1, .int .i64 a.2.1, .int .i64 a.2.2.1, .int .i64 a.2.2.2], .agg #[.string b.1, .int .i64 b.2.1, .int .i64 b.2.2.1, .int .i64 b.2.2.2]] w (Ret (.bool (bef a b)) w) := by
  have B0 : Below w.heap.size w ((w.alloc (.cells #[.string a.1, .int .i64 a.2.1, .int .i64 a.2.2.1, .int .i64 a.2.2.2] 69)).alloc (.cells #[.string b.1, .int .i64 b.2.1, .int .i64 b.2.2.1, .int .i64 b.2.2.2] 69)) := (by repeat (first | exact Below.refl _ _ | with_reducible assumption | (refine Below.drew ?_) | (refine Below.drewN ?_ _) | (refine Below.alloc ?_ (by simp; try omega) _) | (refine Below.setCell ?_ (by simp; try omega) _)))
  have HB := hide B0
  clear B0
  have HV := hide (show bef a b = bif ((a.2.1 == 0) != (b.2.1 == 0)) then (a.2.1 == 0) else Op.bytesLess a.1.toList b.1.toList from rfl)
  go_enter Try.func65, Try.ntmps65
  obtain ⟨an, ab, aw, av⟩ := a
  obtain ⟨bn, bb, bw, bv⟩ := b
  simp only at HB HV ⊢
  by_cases h1 : ab = 0
  · subst h1
    by_cases h2 : bb = 0
    · subst h2
      go_wp2_with fail
      go_ret
      exact ⟨by rw [HV.out]; rfl, HB.out⟩
    · have e2 : (bb == 0) = false := beq_eq_false_iff_ne.2 h2
      rw [e2] at HV
      clear h2
      go_wp2_with fail
      go_ret
      exact ⟨by rw [HV.out]; rfl, HB.out⟩
  · have e1 : (ab == 0) = false := beq_eq_false_iff_ne.2 h1
    rw [e1] at HV
    clear h1
    by_cases h2 : bb = 0
    · subst h2
      go_wp2_with fail
      go_ret
      exact ⟨by rw [HV.out]; rfl, HB.out⟩
    · have e2 : (bb == 0) = false := beq_eq_false_iff_ne.2 h2
      rw [e2] at HV
      clear h2
      go_wp2_with fail
      go_ret
      exact ⟨by rw [HV.out]; rfl, HB.out⟩
end Go.Proofs.Ytmglgjchemecjaa.CCmp
/- The comparer of symbols that SortSymbols hands to the library. -/
namespace Go.Proofs.Ytmglgjchemecjaa.CCmpY
set_option maxRecDepth 200000
open Go.ChangeShapes Go.WideShapes Go.ChangeAt Go.RowKit Kit CFixups CSymbols PObj BObj PSort CCmp
theorem group_any (V : Nat) (Y : Option Addr) (ys : List YD) (yc j : Nat) (hj : j < ys.length) (w : World) (hY : w.cell? ⟨V, 1, none⟩ = some (.slice Y ys.length yc)) (hr : Rd w w.heap.size Y (cellsOf symbolC ys)) (hm : ys.length ≤ 1000000) :
    Calls Try.prog 66 #[.int .i64 j, .pointer (some ⟨V, 0, none⟩)] w (Pure (.int .i64 (grp ys[j])) w) := by
  obtain ⟨b, off, hA, hb, hc⟩ := hr.row symbolC_len (by decide) hj
  have hc1 := hc 1 _ rfl
  subst hA
  clear hc hr
  have HV := hide (show grp ys[j] = if (ys[j].2.1 == 0) = true then 0 else 1 from rfl)
  generalize ys[j] = z at *
  go_enter Try.func66, Try.ntmps66
  by_cases h : z.2.1 = 0
  · have e1 : (z.2.1 == 0) = true := beq_iff_eq.2 h
    rw [e1] at HV
    go_wp2_with fail
    go_ret
    exact ⟨by rw [HV.out]; rfl, rfl⟩
  · have e1 : (z.2.1 == 0) = false := beq_eq_false_iff_ne.2 h
    rw [e1] at HV
    clear h
    go_wp2_with fail
    go_ret
    exact ⟨by rw [HV.out]; rfl, rfl⟩
/-- What the comparer reads. -/
def CmpInv (V G : Nat) (Y : Option Addr) (ys : List YD) (yc : Nat) (w : World) : Prop :=
  w.cell? ⟨V, 1, none⟩ = some (.slice Y ys.length yc) ∧ w.cell? ⟨G, 0, none⟩ = some (.func (.func 66) #[] #[.pointer (some ⟨V, 0, none⟩)]) ∧ Rd w w.heap.size Y (cellsOf symbolC ys) ∧ V < w.heap.size ∧ G < w.heap.size
theorem CmpInv.call {V G : Nat} {Y : Option Addr} {ys : List YD} {yc : Nat} {w w' : World} (h : CmpInv V G Y ys yc w) (hb : Below w.heap.size w w') : CmpInv V G Y ys yc w' :=
  ⟨(hb.cell (p := ⟨V, 1, none⟩) h.2.2.2.1).trans h.1, (hb.cell (p := ⟨G, 0, none⟩) h.2.2.2.2).trans h.2.1, (h.2.2.1.below hb).more hb.size, Nat.lt_of_lt_of_le h.2.2.2.1 hb.size, Nat.lt_of_lt_of_le h.2.2.2.2 hb.size⟩
set_option maxHeartbeats 2000000 in
theorem cmp_any (V G : Nat) (Y : Option Addr) (ys : List YD) (yc i j : Nat) (hi : i < ys.length) (hj : j < ys.length) (w : World) (h : CmpInv V G Y ys yc w) (hm : ys.length ≤ 1000000) :
    Calls Try.prog 68 #[.int .i64 i, .int .i64 j, .pointer (some ⟨G, 0, none⟩), .pointer (some ⟨V, 0, none⟩)] w (Ret (.int .i64 (cmpY ys[i] ys[j])) w) := by
  obtain ⟨hV, hG, hr, hVl, hGl⟩ := h
  obtain ⟨b, off, hA, hb, hc⟩ := hr.row symbolC_len (by decide) hi
  obtain ⟨b', off', hA', hb', hc'⟩ := hr.row symbolC_len (by decide) hj
  have e := hA.symm.trans hA'
  simp only [Option.some.injEq, Addr.mk.injEq, and_true] at e
  obtain ⟨rfl, rfl⟩ := e
  have hi0 := hc 0 _ rfl
  have hj0 := hc' 0 _ rfl
  simp only [Nat.add_zero] at hi0 hj0
  have HGA := hide (fun W (hW : Below w.heap.size w W) => group_any V Y ys yc i hi W ((hW.cell (p := ⟨V, 1, none⟩) hVl).trans hV) ((hr.below hW).more hW.size) hm)
  have HGB := hide (fun W (hW : Below w.heap.size w W) => group_any V Y ys yc j hj W ((hW.cell (p := ⟨V, 1, none⟩) hVl).trans hV) ((hr.below hW).more hW.size) hm)
  have HV := hide (show cmpY ys[i] ys[j] = or2 (cmpN (grp ys[i]) (grp ys[j])) (cmpS ys[i].1 ys[j].1) from rfl)
  subst hA
  clear hc hc' hr hA'
  generalize ys[i] = x at *
  generalize ys[j] = y at *
  generalize grp x = gx at *
  generalize grp y = gy at *
  obtain ⟨xn, xr⟩ := x
  obtain ⟨yn, yr⟩ := y
  simp only at hi0 hj0 HV
  go_enter Try.func68, Try.ntmps68
  go_wp2_with fail
  have HS := hide (fun W (hW : Below w.heap.size w W) => (show W.cell? ⟨G, 0, none⟩ = some (.func (.func 66) #[] #[.pointer (some ⟨V, 0, none⟩)]) ∧ W.cell? ⟨V, 1, none⟩ = some (.slice (some ⟨b, off, none⟩) ys.length yc) ∧ W.cell? ⟨b, off + i * 4, none⟩ = some (.string xn) ∧ W.cell? ⟨b, off + j * 4, none⟩ = some (.string yn) from ⟨(hW.cell (p := ⟨G, 0, none⟩) hGl).trans hG, (hW.cell (p := ⟨V, 1, none⟩) hVl).trans hV, (hW.cell (p := ⟨b, off + i * 4, none⟩) hb).trans hi0, (hW.cell (p := ⟨b, off + j * 4, none⟩) hb).trans hj0⟩))
  clear hi0 hj0 hG hV
  refine Reg.startT (fun W => W.cell? ⟨G, 0, none⟩ = some (.func (.func 66) #[] #[.pointer (some ⟨V, 0, none⟩)]) ∧ W.cell? ⟨V, 1, none⟩ = some (.slice (some ⟨b, off, none⟩) ys.length yc) ∧ W.cell? ⟨b, off + i * 4, none⟩ = some (.string xn) ∧ W.cell? ⟨b, off + j * 4, none⟩ = some (.string yn)) (fun _ => false) (by kernel_rfl) ?_
  have hHeld := HS.out w.drew (Below.drew (Below.refl _ _))
  refine Reg.takeT (i := 0) (v := ?_) rfl (by kernel_rfl) (by kernel_rfl) (by kernel_rfl) (by kernel_rfl) (fun _ _ _ h => h) (Or.inl ⟨by rfl, ?_⟩) (by assumption) ?_
  rotate_left 1
  focus (intro w hSw; (try dsimp only at hSw); go_simp; (try with_reducible rfl))
  try simp only [List.getElem_toArray, List.getElem_cons_succ, List.getElem_cons_zero, Act.put, List.setIfInBounds_toArray, List.set_cons_zero, List.set_cons_succ]
  refine Reg.takeT (i := 1) (v := ?_) rfl (by kernel_rfl) (by kernel_rfl) (by kernel_rfl) (by kernel_rfl) (fun _ _ _ h => h) (Or.inl ⟨by rfl, ?_⟩) (by assumption) ?_
  rotate_left 1
  focus (intro w hSw; (try dsimp only at hSw); go_simp; (try with_reducible rfl))
  try simp only [List.getElem_toArray, List.getElem_cons_succ, List.getElem_cons_zero, Act.put, List.setIfInBounds_toArray, List.set_cons_zero, List.set_cons_succ]
  refine Reg.takeT (i := 3) (v := ?_) rfl (by kernel_rfl) (by kernel_rfl) (by kernel_rfl) (by kernel_rfl) (fun _ _ _ h => h) (Or.inl ⟨by rfl, ?_⟩) (by assumption) ?_
  rotate_left 1
  focus (intro w hSw; (try dsimp only at hSw); go_simp; (try with_reducible rfl))
  try simp only [List.getElem_toArray, List.getElem_cons_succ, List.getElem_cons_zero, Act.put, List.setIfInBounds_toArray, List.set_cons_zero, List.set_cons_succ]
  refine Reg.takeT (i := 4) (v := ?_) rfl (by kernel_rfl) (by kernel_rfl) (by kernel_rfl) (by kernel_rfl) (fun _ _ _ h => h) (Or.inl ⟨by rfl, ?_⟩) (by assumption) ?_
  rotate_left 1
  focus (intro w hSw; (try dsimp only at hSw); go_simp; (try with_reducible rfl))
  try simp only [List.getElem_toArray, List.getElem_cons_succ, List.getElem_cons_zero, Act.put, List.setIfInBounds_toArray, List.set_cons_zero, List.set_cons_succ]
  refine Reg.takeT (i := 7) (v := ?_) rfl (by kernel_rfl) (by kernel_rfl) (by kernel_rfl) (by kernel_rfl) (fun _ _ _ h => h) (Or.inl ⟨by rfl, ?_⟩) (by assumption) ?_
  rotate_left 1
  focus (intro w hSw; (try dsimp only at hSw); go_simp; (try with_reducible rfl))
  try simp only [List.getElem_toArray, List.getElem_cons_succ, List.getElem_cons_zero, Act.put, List.setIfInBounds_toArray, List.set_cons_zero, List.set_cons_succ]
  refine Reg.takeT (i := 8) (v := ?_) rfl (by kernel_rfl) (by kernel_rfl) (by kernel_rfl) (by kernel_rfl) (fun _ _ _ h => h) (Or.inl ⟨by rfl, ?_⟩) (by assumption) ?_
  rotate_left 1
  focus (intro w hSw; (try dsimp only at hSw); go_simp; (try with_reducible rfl))
  try simp only [List.getElem_toArray, List.getElem_cons_succ, List.getElem_cons_zero, Act.put, List.setIfInBounds_toArray, List.set_cons_zero, List.set_cons_succ]
  refine Reg.takeT (i := 9) (v := ?_) rfl (by kernel_rfl) (by kernel_rfl) (by kernel_rfl) (by kernel_rfl) (fun _ _ _ h => h) (Or.inl ⟨by rfl, ?_⟩) (by assumption) ?_
  rotate_left 1
  focus (intro w hSw; (try dsimp only at hSw); go_simp; (try with_reducible rfl))
  try simp only [List.getElem_toArray, List.getElem_cons_succ, List.getElem_cons_zero, Act.put, List.setIfInBounds_toArray, List.set_cons_zero, List.set_cons_succ]
  refine Reg.takeT (i := 10) (v := ?_) rfl (by kernel_rfl) (by kernel_rfl) (by kernel_rfl) (by kernel_rfl) (fun _ _ _ h => h) (Or.inl ⟨by rfl, ?_⟩) (by assumption) ?_
  rotate_left 1
  focus (intro w hSw; (try dsimp only at hSw); go_simp; (try with_reducible rfl))
  try simp only [List.getElem_toArray, List.getElem_cons_succ, List.getElem_cons_zero, Act.put, List.setIfInBounds_toArray, List.set_cons_zero, List.set_cons_succ]
  refine Reg.takeT (i := 11) (v := ?_) rfl (by kernel_rfl) (by kernel_rfl) (by kernel_rfl) (by kernel_rfl) (fun _ _ _ h => h) (Or.inl ⟨by rfl, ?_⟩) (by assumption) ?_
  rotate_left 1
  focus (intro w hSw; (try dsimp only at hSw); go_simp; (try with_reducible rfl))
  try simp only [List.getElem_toArray, List.getElem_cons_succ, List.getElem_cons_zero, Act.put, List.setIfInBounds_toArray, List.set_cons_zero, List.set_cons_succ]
  refine Reg.takeT (i := 12) (v := ?_) rfl (by kernel_rfl) (by kernel_rfl) (by kernel_rfl) (by kernel_rfl) (fun _ _ _ h => h) (Or.inl ⟨by rfl, ?_⟩) (by assumption) ?_
  rotate_left 1
  focus (intro w hSw; (try dsimp only at hSw); go_simp; (try with_reducible rfl))
  try simp only [List.getElem_toArray, List.getElem_cons_succ, List.getElem_cons_zero, Act.put, List.setIfInBounds_toArray, List.set_cons_zero, List.set_cons_succ]
  refine Reg.takeT (i := 13) (v := ?_) rfl (by kernel_rfl) (by kernel_rfl) (by kernel_rfl) (by kernel_rfl) (fun _ _ _ h => h) (Or.inl ⟨by rfl, ?_⟩) (by assumption) ?_
  rotate_left 1
  focus (intro w hSw; (try dsimp only at hSw); go_simp; (try with_reducible rfl))
  try simp only [List.getElem_toArray, List.getElem_cons_succ, List.getElem_cons_zero, Act.put, List.setIfInBounds_toArray, List.set_cons_zero, List.set_cons_succ]
  refine Reg.takeT (i := 14) (v := ?_) rfl (by kernel_rfl) (by kernel_rfl) (by kernel_rfl) (by kernel_rfl) (fun _ _ _ h => h) (Or.inl ⟨by rfl, ?_⟩) (by assumption) ?_
  rotate_left 1
  focus (intro w hSw; (try dsimp only at hSw); go_simp; (try with_reducible rfl))
  try simp only [List.getElem_toArray, List.getElem_cons_succ, List.getElem_cons_zero, Act.put, List.setIfInBounds_toArray, List.set_cons_zero, List.set_cons_succ]
  refine Reg.takeT (i := 15) (v := ?_) rfl (by kernel_rfl) (by kernel_rfl) (by kernel_rfl) (by kernel_rfl) (fun _ _ _ h => h) (Or.inl ⟨by rfl, ?_⟩) (by assumption) ?_
  rotate_left 1
  focus (intro w hSw; (try dsimp only at hSw); go_simp; (try with_reducible rfl))
  try simp only [List.getElem_toArray, List.getElem_cons_succ, List.getElem_cons_zero, Act.put, List.setIfInBounds_toArray, List.set_cons_zero, List.set_cons_succ]
  refine Reg.takeT (i := 16) (v := ?_) rfl (by kernel_rfl) (by kernel_rfl) (by kernel_rfl) (by kernel_rfl) (fun _ _ _ h => h) (Or.inl ⟨by rfl, ?_⟩) (by assumption) ?_
  rotate_left 1
  focus (intro w hSw; (try dsimp only at hSw); go_simp; (try with_reducible rfl))
  try simp only [List.getElem_toArray, List.getElem_cons_succ, List.getElem_cons_zero, Act.put, List.setIfInBounds_toArray, List.set_cons_zero, List.set_cons_succ]
  refine Reg.takeT (i := 17) (v := ?_) rfl (by kernel_rfl) (by kernel_rfl) (by kernel_rfl) (by kernel_rfl) (fun _ _ _ h => h) (Or.inl ⟨by rfl, ?_⟩) (by assumption) ?_
  rotate_left 1
  focus (intro w hSw; (try dsimp only at hSw); go_simp; (try with_reducible rfl))
  try simp only [List.getElem_toArray, List.getElem_cons_succ, List.getElem_cons_zero, Act.put, List.setIfInBounds_toArray, List.set_cons_zero, List.set_cons_succ]
  refine Reg.takeT (i := 18) (v := ?_) rfl (by kernel_rfl) (by kernel_rfl) (by kernel_rfl) (by kernel_rfl) (fun _ _ _ h => h) (Or.inl ⟨by rfl, ?_⟩) (by assumption) ?_
  rotate_left 1
  focus (intro w hSw; (try dsimp only at hSw); go_simp; (try with_reducible rfl))
  try simp only [List.getElem_toArray, List.getElem_cons_succ, List.getElem_cons_zero, Act.put, List.setIfInBounds_toArray, List.set_cons_zero, List.set_cons_succ]
  refine Reg.oneT (i := 2) rfl (by kernel_rfl) (fun K hK => ?_)
  go_simp
  refine (HGA.out w.drew (Below.drew (Below.refl _ _))).mono ?_
  rintro e w1 ⟨rfl, rfl⟩
  refine hK.out _ _ hHeld ?_
  clear hK K
  try simp only [List.getElem_toArray, List.getElem_cons_succ, List.getElem_cons_zero, Act.put, List.setIfInBounds_toArray, List.set_cons_zero, List.set_cons_succ]
  refine Reg.oneT (i := 5) rfl (by kernel_rfl) (fun K hK => ?_)
  go_simp
  refine (HGB.out w.drew (Below.drew (Below.refl _ _))).mono ?_
  rintro e w1 ⟨rfl, rfl⟩
  refine hK.out _ _ hHeld ?_
  clear hK K
  try simp only [List.getElem_toArray, List.getElem_cons_succ, List.getElem_cons_zero, Act.put, List.setIfInBounds_toArray, List.set_cons_zero, List.set_cons_succ]
  refine Reg.oneT (i := 6) rfl (by kernel_rfl) (fun K hK => ?_)
  go_simp
  refine (compareI_any gx gy w.drew).mono ?_
  rintro e w1 ⟨rfl, rfl⟩
  refine hK.out _ _ hHeld ?_
  clear hK K
  try simp only [List.getElem_toArray, List.getElem_cons_succ, List.getElem_cons_zero, Act.put, List.setIfInBounds_toArray, List.set_cons_zero, List.set_cons_succ]
  refine Reg.oneT (i := 19) rfl (by kernel_rfl) (fun K hK => ?_)
  go_simp
  refine (compareS_any xn yn w.drew).mono ?_
  rintro e w1 ⟨rfl, rfl⟩
  refine hK.out _ _ hHeld ?_
  clear hK K
  try simp only [List.getElem_toArray, List.getElem_cons_succ, List.getElem_cons_zero, Act.put, List.setIfInBounds_toArray, List.set_cons_zero, List.set_cons_succ]
  generalize cmpN gx gy = ci at *
  generalize cmpS xn yn = cs at *
  refine Reg.oneT (i := 20) rfl (by kernel_rfl) (fun K hK => ?_)
  go_simp
  have B2 : Below w.heap.size w (w.alloc (.cells #[.int .i64 ci, .int .i64 cs] 3)).drew := (by repeat (first | exact Below.refl _ _ | with_reducible assumption | (refine Below.drew ?_) | (refine Below.drewN ?_ _) | (refine Below.alloc ?_ (by simp; try omega) _) | (refine Below.setCell ?_ (by simp; try omega) _)))
  have X2 := (Box.new w 3 #[.int .i64 ci, .int .i64 cs]).drew
  have hHeld := HS.out _ B2
  refine hK.out _ _ hHeld ?_
  clear hK K
  try simp only [List.getElem_toArray, List.getElem_cons_succ, List.getElem_cons_zero, Act.put, List.setIfInBounds_toArray, List.set_cons_zero, List.set_cons_succ]
  have HB2 := hide B2
  have HO := hide (or_any w.heap.size 0 2 ci cs _ (X2.cell 0) (X2.cell 1))
  clear B2 X2
  refine Reg.oneT (i := 21) rfl (by kernel_rfl) (fun K hK => ?_)
  go_simp
  refine HO.out.mono ?_
  rintro e w1 ⟨rfl, rfl⟩
  refine hK.out _ _ hHeld ?_
  clear hK K
  try simp only [List.getElem_toArray, List.getElem_cons_succ, List.getElem_cons_zero, Act.put, List.setIfInBounds_toArray, List.set_cons_zero, List.set_cons_succ]
  refine Reg.takeT (i := 22) (v := ?_) rfl (by kernel_rfl) (by kernel_rfl) (by kernel_rfl) (by kernel_rfl) (fun _ _ _ h => h) (Or.inl ⟨by rfl, ?_⟩) (by assumption) ?_
  rotate_left 1
  focus (intro w hSw; (try dsimp only at hSw); go_simp; (try with_reducible rfl))
  try simp only [List.getElem_toArray, List.getElem_cons_succ, List.getElem_cons_zero, Act.put, List.setIfInBounds_toArray, List.set_cons_zero, List.set_cons_succ]
  refine Reg.doneT (by kernel_rfl) ?_ _
  clear hHeld HS
  go_wp2_with fail
  go_ret
  exact ⟨by rw [HV.out]; rfl, HB2.out⟩
end Go.Proofs.Ytmglgjchemecjaa.CCmpY
