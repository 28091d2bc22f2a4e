/- An object that grows: a section or a symbol is put behind its last. -/
import Derived.Test.YtmglgjchemecjaaGreatFnExactLandmarksOfM4
import Derived.Lib.AppendZerosOnto
import Derived.WalkSpells
import Derived.Deep.RegionHeld3
import Derived.Deep.RegionLaw
import Derived.Deep.RegionLawGrows
import Derived.Lib.SliceRun
import Derived.Deep.QuietTactic
import Derived.BigQuiet
import Derived.Test.YtmglgjchemecjaaGreatRows
import Derived.Lib.OwnBridge
import Derived.Lib.SlicesS
import Derived.StillTailTactics
import Derived.Lib.VarintMem
import Derived.Lib.EndianMore
set_option linter.unusedSimpArgs false
set_option linter.unusedVariables false
namespace Go.Proofs.YtmglgjchemecjaaGreat.BObj2
set_option maxRecDepth 200000
open Go.ChangeShapes Go.WideShapes Go.ChangeAt Go.RowKit Kit CFixups CSymbols PObj BObj CMarkRows
theorem one_sec (q : SV) : ∀ u ∈ secC q, u.oneCell' = true := by
  intro u hu
  simp only [secC, List.mem_cons, List.not_mem_nil, or_false] at hu
  rcases hu with rfl | rfl | rfl | rfl | rfl | rfl <;> rfl
theorem ys_snoc (ys : List YD) (z : YD) : cellsOf symbolC (ys ++ [z]) = cellsOf symbolC ys ++ symbolC z := by simp [cellsOf]
section
variable {w w' : World} {base N : Nat} {o : OV}
/-- A section is put behind the last: its rows are there already, and newer than the others. -/
theorem _root_.Go.Proofs.YtmglgjchemecjaaGreat.BObj.OwnO.addS (h : OwnO w base o) {q : SV} (hq : RwS w base q) (hold : ∀ p ∈ o.ps, ∀ k, sblk p k → k < N) (hnew : ∀ k, sblk q k → N ≤ k) {A' : Option Addr} {n' c' : Nat} (hn : n' = o.ps.length + 1)
    (row : Row w' base 77 6 A' n' c' (cellsOf secC o.ps ++ secC q)) (g : w.grownBy w' (blk o.A o.c)) : OwnO w' base { o with A := A', c := c', ps := o.ps ++ [q] } := by
  subst hn
  have hS : ∀ p, RwS w base p → RwS w' base p := fun p hp => ⟨hp.1.grown g (fun k hk => apartT hp.1 h.1.1 (by decide) k hk), hp.2.grown g (fun k hk => apartT hp.2 h.1.1 (by decide) k hk)⟩
  refine ⟨⟨?_, ?_, ?_⟩, h.2.grown g (fun k hk => apartT h.2 h.1.1 (by decide) k hk)⟩
  · rw [← cells_snoc] at row
    show Row w' base _ 6 A' (o.ps ++ [q]).length c' _
    rw [List.length_append]
    exact row
  · exact RwSs.snoc (fun p hp => hS p (h.1.2.1 p hp)) (hS q hq)
  · exact PwSs.snoc h.1.2.2 hold hnew
/-- A symbol is put behind the last. -/
theorem _root_.Go.Proofs.YtmglgjchemecjaaGreat.BObj.OwnO.addY (h : OwnO w base o) (zs : List YD) {Y' : Option Addr} {n' c' : Nat} (hn : n' = o.ys.length + zs.length)
    (row : Row w' base 69 4 Y' n' c' (cellsOf symbolC o.ys ++ cellsOf symbolC zs)) (g : w.grownBy w' (blk o.Y o.yc)) : OwnO w' base { o with Y := Y', yc := c', ys := o.ys ++ zs } := by
  subst hn
  refine ⟨⟨h.1.1.grown g (fun k hk => apartT h.1.1 h.2 (by decide) k hk), fun p hp => ⟨(h.1.2.1 p hp).1.grown g (fun k hk => apartT (h.1.2.1 p hp).1 h.2 (by decide) k hk), (h.1.2.1 p hp).2.grown g (fun k hk => apartT (h.1.2.1 p hp).2 h.2 (by decide) k hk)⟩, h.1.2.2⟩, ?_⟩
  show Row w' base _ 4 Y' (o.ys ++ zs).length c' (cellsOf symbolC (o.ys ++ zs))
  rw [List.length_append, show cellsOf symbolC (o.ys ++ zs) = cellsOf symbolC o.ys ++ cellsOf symbolC zs by simp [cellsOf]]
  exact row
/-- A box of another type than an object's rows is none of its blocks. -/
theorem _root_.Go.Proofs.YtmglgjchemecjaaGreat.BObj.OwnO.ne_box (h : OwnO w base o) {X : Nat} {t : TypeId} {cs : Array Value} (hb : Box w X t cs) (h1 : 5 ≠ t) (h2 : 80 ≠ t) (h3 : 77 ≠ t) (h4 : 69 ≠ t) : ∀ k, oblk o k → k ≠ X := by
  rintro k ((hk | ⟨p, hp, hk⟩) | hk)
  · exact h.1.1.box hb h3 k hk
  · exact (h.1.2.1 p hp).box hb h1 h2 k hk
  · exact h.2.box hb h4 k hk
theorem _root_.Go.Proofs.YtmglgjchemecjaaGreat.BObj.OwnO.set (h : OwnO w base o) {a : Addr} (ha : ∀ k, oblk o k → k ≠ a.block) (u : Value) : OwnO (w.setCell a u) base o := h.keep fun k hk => Below.heap_setCell w a u k (ha k hk)
theorem _root_.Go.Proofs.YtmglgjchemecjaaGreat.BObj.OwnO.grownR (h : OwnO w base o) {R : Nat} (g : w.grownBy w' (some R)) (hR : R < base) : OwnO w' base o := h.keep fun k hk => g.block k (h.lt k hk).2 (fun e => by injection e with e; have := (h.lt k hk).1; omega)
end
end Go.Proofs.YtmglgjchemecjaaGreat.BObj2
/- slices.Clone of symbols, fixups and bytes. -/
namespace Go.Proofs.YtmglgjchemecjaaGreat.CClones
set_option maxRecDepth 200000
open Go.ChangeShapes Go.WideShapes Go.ChangeAt Go.RowKit Kit CFixups CSymbols PObj BObj CMarkRows CObjValid CCopyS
/-- A row of the call's own. -/
def RetRow (T m n : Nat) (xs : List Value) (w : World) (e : Ending) (w' : World) : Prop := ∃ A c, e = .returned (.slice A n c) ∧ Row w' w.heap.size T m A n c xs ∧ Below w.heap.size w w'
theorem cloneY_any (A : Option Addr) (xs : List YD) (c B : Nat) (w : World) (hx : Rd w B A (cellsOf symbolC xs)) (hB : B ≤ w.heap.size) (hxm : xs.length ≤ 1048576) (hnil : A = none → c = 0) :
    Calls Tryz.prog 106 #[.slice A xs.length c] w (RetRow 69 4 xs.length (cellsOf symbolC xs) w) := by
  obtain ⟨i0, hi, hz0, hz1, hz2⟩ := info_parts infoY
  have hq := fun W => Lib.run_eql_slice_nil (P := Tryz.prog) W 29 69 A xs.length c 0 0 Tryz.underlying29
  cases A with
  | none =>
    have hxs : xs = [] := by
      cases xs with
      | nil => rfl
      | cons u r =>
        obtain ⟨b, off, e', _⟩ := hx 0 _ rfl
        cases e'
    subst hxs
    have hc := hnil rfl
    subst hc
    clear hnil hx
    simp only [Option.isNone_none, List.length_nil] at hq
    show Calls _ _ #[.slice none 0 0] _ _
    go_enter Tryz.func106, Tryz.ntmps106
    go_wp2_with fail
    go_ret
    exact ⟨none, 0, rfl, Row.empty _ _ _ _ _, Below.refl _ _⟩
  | some ad =>
    have HX := hide ((hx.more hB).below ((Below.refl _ _).alloc (Nat.le_refl _) (.cells #[] 69)))
    have HB : Hid (Below w.heap.size w (w.alloc (.cells #[] 69))) := (by repeat (first | exact Below.refl _ _ | with_reducible assumption | (refine Below.drew ?_) | (refine Below.drewN ?_ _) | (refine Below.alloc ?_ (by simp; try omega) _) | (refine Below.setCell ?_ (by simp; try omega) _)))
    have HI := hide (And.intro hi (And.intro hz0 (And.intro hz1 hz2)))
    simp only [Option.isNone_some] at hq
    clear hx hnil hi hz0 hz1 hz2
    go_enter Tryz.func106, Tryz.ntmps106
    go_wp2_with (at_builtin; refine wpList_app _ rfl (.tmp 5) (.tmp 6) 29 rfl 69 i0 (.agg #[.string ByteArray.empty, .int .i64 0, .int .i64 0, .int .i64 0]) 4 40 Tryz.underlying29 HI.out.1 HI.out.2.1 HI.out.2.2.1 HI.out.2.2.2 rfl (by decide) w.heap.size (some ⟨w.heap.size, 0, none⟩) 0 0 [] rfl (Row.empty _ _ _ _ _) HB.out.size (some ad) xs.length c (cellsOf symbolC xs) rfl HX.out (cellsOf_len symbolC_len xs) (fun h => by cases h) (one_sym xs) ?n1 ?n2 ?_)
    case n1 => unfold maxLen; omega
    case n2 => omega
    intro A6 n6 c6 w6 hn6 o6 g6 k6
    have hn6 : n6 = xs.length := by omega
    have HO6 := hide (show Row w6 w.heap.size 69 4 A6 n6 c6 (cellsOf symbolC xs) from o6)
    have HB6 := hide (HB.out.grown g6 HB.out.size (fun k hk => by cases hk))
    clear o6 g6 k6
    subst hn6
    go_wp2_with fail
    go_ret
    exact ⟨A6, c6, rfl, HO6.out, HB6.out⟩
theorem cloneF_any (A : Option Addr) (xs : List FD) (c B : Nat) (w : World) (hx : Rd w B A (cellsOf fixupC xs)) (hB : B ≤ w.heap.size) (hxm : xs.length ≤ 1048576) (hnil : A = none → c = 0) :
    Calls Tryz.prog 108 #[.slice A xs.length c] w (RetRow 80 4 xs.length (cellsOf fixupC xs) w) := by
  obtain ⟨i0, hi, hz0, hz1, hz2⟩ := info_parts CFixups.info
  have hq := fun W => Lib.run_eql_slice_nil (P := Tryz.prog) W 75 80 A xs.length c 0 0 Tryz.underlying75
  cases A with
  | none =>
    have hxs : xs = [] := by
      cases xs with
      | nil => rfl
      | cons u r =>
        obtain ⟨b, off, e', _⟩ := hx 0 _ rfl
        cases e'
    subst hxs
    have hc := hnil rfl
    subst hc
    clear hnil hx
    simp only [Option.isNone_none, List.length_nil] at hq
    show Calls _ _ #[.slice none 0 0] _ _
    go_enter Tryz.func108, Tryz.ntmps108
    go_wp2_with fail
    go_ret
    exact ⟨none, 0, rfl, Row.empty _ _ _ _ _, Below.refl _ _⟩
  | some ad =>
    have HX := hide ((hx.more hB).below ((Below.refl _ _).alloc (Nat.le_refl _) (.cells #[] 80)))
    have HB : Hid (Below w.heap.size w (w.alloc (.cells #[] 80))) := (by repeat (first | exact Below.refl _ _ | with_reducible assumption | (refine Below.drew ?_) | (refine Below.drewN ?_ _) | (refine Below.alloc ?_ (by simp; try omega) _) | (refine Below.setCell ?_ (by simp; try omega) _)))
    have HI := hide (And.intro hi (And.intro hz0 (And.intro hz1 hz2)))
    simp only [Option.isNone_some] at hq
    clear hx hnil hi hz0 hz1 hz2
    go_enter Tryz.func108, Tryz.ntmps108
    go_wp2_with (at_builtin; refine wpList_app _ rfl (.tmp 5) (.tmp 6) 75 rfl 80 i0 (.agg #[.int .i64 0, .int .i64 0, .int .i64 0, .int .i64 0]) 4 32 Tryz.underlying75 HI.out.1 HI.out.2.1 HI.out.2.2.1 HI.out.2.2.2 rfl (by decide) w.heap.size (some ⟨w.heap.size, 0, none⟩) 0 0 [] rfl (Row.empty _ _ _ _ _) HB.out.size (some ad) xs.length c (cellsOf fixupC xs) rfl HX.out (cellsOf_len fixupC_len xs) (fun h => by cases h) (one_fix xs) ?n1 ?n2 ?_)
    case n1 => unfold maxLen; omega
    case n2 => omega
    intro A6 n6 c6 w6 hn6 o6 g6 k6
    have hn6 : n6 = xs.length := by omega
    have HO6 := hide (show Row w6 w.heap.size 80 4 A6 n6 c6 (cellsOf fixupC xs) from o6)
    have HB6 := hide (HB.out.grown g6 HB.out.size (fun k hk => by cases hk))
    clear o6 g6 k6
    subst hn6
    go_wp2_with fail
    go_ret
    exact ⟨A6, c6, rfl, HO6.out, HB6.out⟩
theorem clone8_any (A : Option Addr) (xs : List Int) (c B : Nat) (w : World) (hx : Rd w B A (ints .u8 xs)) (hB : B ≤ w.heap.size) (hxm : xs.length ≤ 1048576) (hnil : A = none → c = 0) :
    Calls Tryz.prog 107 #[.slice A xs.length c] w (RetRow 5 1 xs.length (ints .u8 xs) w) := by
  obtain ⟨i0, hi, hz0, hz1, hz2⟩ := info_parts CBytes.info8
  have hq := fun W => Lib.run_eql_slice_nil (P := Tryz.prog) W 34 5 A xs.length c 0 0 Tryz.underlying34
  cases A with
  | none =>
    have hxs : xs = [] := by
      cases xs with
      | nil => rfl
      | cons u r =>
        obtain ⟨b, off, e', _⟩ := hx 0 (.int .u8 u) rfl
        cases e'
    subst hxs
    have hc := hnil rfl
    subst hc
    clear hnil hx
    simp only [Option.isNone_none, List.length_nil] at hq
    show Calls _ _ #[.slice none 0 0] _ _
    go_enter Tryz.func107, Tryz.ntmps107
    go_wp2_with fail
    go_ret
    exact ⟨none, 0, rfl, Row.empty _ _ _ _ _, Below.refl _ _⟩
  | some ad =>
    have HX := hide ((hx.more hB).below ((Below.refl _ _).alloc (Nat.le_refl _) (.cells #[] 5)))
    have HB : Hid (Below w.heap.size w (w.alloc (.cells #[] 5))) := (by repeat (first | exact Below.refl _ _ | with_reducible assumption | (refine Below.drew ?_) | (refine Below.drewN ?_ _) | (refine Below.alloc ?_ (by simp; try omega) _) | (refine Below.setCell ?_ (by simp; try omega) _)))
    have HI := hide (And.intro hi (And.intro hz0 (And.intro hz1 hz2)))
    simp only [Option.isNone_some] at hq
    clear hx hnil hi hz0 hz1 hz2
    go_enter Tryz.func107, Tryz.ntmps107
    go_wp2_with (at_builtin; refine wpList_app _ rfl (.tmp 5) (.tmp 6) 34 rfl 5 i0 (.int .u8 0) 1 1 Tryz.underlying34 HI.out.1 HI.out.2.1 HI.out.2.2.1 HI.out.2.2.2 rfl (by decide) w.heap.size (some ⟨w.heap.size, 0, none⟩) 0 0 [] rfl (Row.empty _ _ _ _ _) HB.out.size (some ad) xs.length c (ints .u8 xs) rfl HX.out (by simp) (fun h => by cases h) (one_ints _ xs) ?n1 ?n2 ?_)
    case n1 => unfold maxLen; omega
    case n2 => omega
    intro A6 n6 c6 w6 hn6 o6 g6 k6
    have hn6 : n6 = xs.length := by omega
    have HO6 := hide (show Row w6 w.heap.size 5 1 A6 n6 c6 (ints .u8 xs) from o6)
    have HB6 := hide (HB.out.grown g6 HB.out.size (fun k hk => by cases hk))
    clear o6 g6 k6
    subst hn6
    go_wp2_with fail
    go_ret
    exact ⟨A6, c6, rfl, HO6.out, HB6.out⟩
end Go.Proofs.YtmglgjchemecjaaGreat.CClones
/- The program's copyObject: an object in new memory. -/
namespace Go.Proofs.YtmglgjchemecjaaGreat.CCopyI
set_option maxRecDepth 200000
open Go.ChangeShapes Go.WideShapes Go.ChangeAt Go.RowKit Kit CFixups CSymbols PObj BObj CMarkRows CObjValid CCopyS CClones
set_option maxHeartbeats 2000000 in
theorem copyObject_any (o : OV) (w : World) (hr : RdO w w.heap.size o) (hf : Fit o) (hn : Nils o) (hs : o.ps.length ≤ 100 ∧ o.ys.length ≤ 100) :
    Calls Tryz.prog 47 #[.agg #[.slice o.A o.ps.length o.c, .slice o.Y o.ys.length o.yc]] w (RetO o.d w) := by
  obtain ⟨ix, hx1, hx2, hx3, hx4⟩ := info_parts BObj.info
  have HIX := hide (And.intro hx1 (And.intro hx2 (And.intro hx3 hx4)))
  clear hx1 hx2 hx3 hx4
  obtain ⟨A, c, ps, Y, yc, ys⟩ := o
  obtain ⟨np, ny, cy, hp, hy⟩ := hf
  obtain ⟨ny0, np0⟩ := hn
  obtain ⟨ss1, ss2⟩ := hs
  simp only at np ny cy hp hy ny0 np0 ss1 ss2 ⊢
  have HR := hide hr
  have HL := hide (And.intro hp np0)
  have HNY := hide ny0
  clear hr hp hy np0 ny0
  have B0 : Below w.heap.size w ((w.alloc (.cells #[.slice A ps.length c, .slice Y ys.length yc] 31)).alloc (.cells #[.slice none 0 0, .slice none 0 0] 31)) := (by repeat (first | exact Below.refl _ _ | with_reducible assumption | (refine Below.drew ?_) | (refine Below.drewN ?_ _) | (refine Below.alloc ?_ (by simp; try omega) _) | (refine Below.setCell ?_ (by simp; try omega) _)))
  have HV0 := hide ((Box.new w 31 #[.slice A ps.length c, .slice Y ys.length yc]).alloc (.cells #[.slice none 0 0, .slice none 0 0] 31))
  have HR0 := (Box.new (w.alloc (.cells #[.slice A ps.length c, .slice Y ys.length yc] 31)) 31 #[.slice none 0 0, .slice none 0 0])
  simp only [World.size_alloc] at HR0
  have HRR0 := hide HR0
  clear HR0
  have HB0 := hide B0
  have hVR : w.heap.size < w.heap.size + 1 := by omega
  clear B0
  go_enter Tryz.func47, Tryz.ntmps47
  go_wp2_with fail
  refine (cloneY_any Y ys yc w.heap.size _ (HR.out.2.below HB0.out) HB0.out.size (by omega) HNY.out).mono ?_
  rintro e w1 ⟨A1, c1, rfl, o1, b1⟩
  have HB1 := hide (HB0.out.trans (b1.mono HB0.out.size))
  have HV1 := hide (HV0.out.call b1)
  have HRR1 := hide (HRR0.out.call b1)
  have HY1 := hide (o1.down HB0.out.size)
  have hR0 := HRR1.out.lt
  have v0 := HV1.out.cell 0
  simp only [List.getElem?_toArray, List.getElem?_cons_zero, List.getElem?_cons_succ] at v0
  have hvl1 := HV1.out.lt
  clear o1 b1 HB0 HV0 HRR0
  go_wp2_with fail
  clear v0
  have HX2 := hide (Box.new w1 31 #[.slice none 0 0, .slice A1 ys.length c1])
  have HB2 := hide (HB1.out.alloc HB1.out.size (.cells #[.slice none 0 0, .slice A1 ys.length c1] 31))
  have HV2 := hide (HV1.out.alloc (.cells #[.slice none 0 0, .slice A1 ys.length c1] 31))
  have HRR2 := hide (HRR1.out.alloc (.cells #[.slice none 0 0, .slice A1 ys.length c1] 31))
  have HY2 := hide (HY1.out.alloc (.cells #[.slice none 0 0, .slice A1 ys.length c1] 31))
  clear HB1 HV1 HRR1 HY1
  generalize w1.alloc (.cells #[.slice none 0 0, .slice A1 ys.length c1] 31) = w2 at *
  have hRX : w.heap.size + 1 < w1.heap.size := hR0
  have hVX : w.heap.size < w1.heap.size := by omega
  generalize w1.heap.size = X at *
  generalize w.heap.size + 1 = R at *
  go_loopw [13] (fun i wi => ∃ (k : Nat) (qs : List SV) (Aq : Option Addr) (cq : Nat), k ≤ ps.length ∧ qs.length = k ∧ i = .int .i64 k ∧ qs.map SV.d = (ps.take k).map SV.d ∧ OwnSs wi w.heap.size Aq cq qs ∧ Box wi X 31 #[.slice Aq k cq, .slice A1 ys.length c1] ∧ Row wi w.heap.size 69 4 A1 ys.length c1 (cellsOf symbolC ys) ∧ Box wi w.heap.size 31 #[.slice A ps.length c, .slice Y ys.length yc] ∧ Box wi R 31 #[.slice none 0 0, .slice none 0 0] ∧ Below w.heap.size w wi) (fun i _ => ps.length - (intOf i).toNat)
  case atStart => exact ⟨0, [], none, 0, Nat.zero_le _, rfl, rfl, rfl, ⟨Row.empty _ _ _ _ _, (fun p hp => by cases hp), List.Pairwise.nil⟩, HX2.out, HY2.out, HV2.out, HRR2.out, HB2.out⟩
  case round =>
    clear HX2 HY2 HV2 HRR2 HB2
    obtain ⟨k, qs, Aq, cq, hk, hql, rfl, hqd, ho, hx, hrow, hv, hrr, hb⟩ := hrel
    have HO := hide ho
    have HX := hide hx
    have HY := hide hrow
    have HV := hide hv
    have HRR := hide hrr
    have HB := hide hb
    have HQ := hide (And.intro hql hqd)
    have v0 := hv.cell 0
    have x0 := hx.cell 0
    have x1 := hx.cell 1
    simp only [List.getElem?_toArray, List.getElem?_cons_zero, List.getElem?_cons_succ] at v0 x0 x1
    have hvl := hv.lt
    have hxl := hx.lt
    by_cases hlt : k < ps.length
    · obtain ⟨b, off, hA, hbg, hc⟩ := (HR.out.1.1.below hb).row secC_len (by decide) hlt
      have hbw : b < wr.heap.size := Nat.lt_of_lt_of_le hbg hb.size
      have hc0 := hc 0 _ rfl
      have hc1 := hc 1 _ rfl
      have hc2 := hc 2 _ rfl
      have hc3 := hc 3 _ rfl
      have hc4 := hc 4 _ rfl
      have hc5 := hc 5 _ rfl
      simp only [Nat.add_zero] at hc0
      have HM := hide (HL.out.1 _ (List.getElem_mem hlt))
      have HN := hide (HL.out.2 _ (List.getElem_mem hlt))
      have HRS := hide (HR.out.1.2 _ (List.getElem_mem hlt))
      have HD := hide (show (qs ++ [ps[k]]).map SV.d = (ps.take (k + 1)).map SV.d by rw [take_succ hlt, List.map_append, List.map_append, hqd])
      clear hql hqd ho hx hrow hv hrr hb hc
      subst hA
      generalize ps[k] = p at *
      have hmz := HM.out.2.1
      have hmf := HM.out.2.2
      go_wp2_with fail
      have HSa := Box.new wr 77 #[.string p.nm, .int .i64 p.kd, .int .i64 p.al, .slice p.A p.zs.length p.c, .int .i64 p.sz, .slice p.F p.fs.length p.fc]
      have HBA := hide (show Below wr.heap.size wr (wr.alloc (.cells #[.string p.nm, .int .i64 p.kd, .int .i64 p.al, .slice p.A p.zs.length p.c, .int .i64 p.sz, .slice p.F p.fs.length p.fc] 77)) from (by repeat (first | exact Below.refl _ _ | with_reducible assumption | (refine Below.drew ?_) | (refine Below.drewN ?_ _) | (refine Below.alloc ?_ (by simp; try omega) _) | (refine Below.setCell ?_ (by simp; try omega) _))))
      generalize wr.alloc (.cells #[.string p.nm, .int .i64 p.kd, .int .i64 p.al, .slice p.A p.zs.length p.c, .int .i64 p.sz, .slice p.F p.fs.length p.fc] 77) = wa at *
      have Z0 : wa.cell? ⟨wr.heap.size, 3, none⟩ = some (.slice p.A p.zs.length p.c) ∧ wa.cell? ⟨wr.heap.size, 5, none⟩ = some (.slice p.F p.fs.length p.fc) := ⟨HSa.cell 3, HSa.cell 5⟩
      have hSa := HSa.lt
      have HS := hide HSa
      have HWA := hide (HB.out.trans (HBA.out.mono HB.out.size))
      clear HSa hc0 hc1 hc2 hc3 hc4 hc5 v0 x0 x1
      refine Reg.startT (fun W => W.cell? ⟨wr.heap.size, 3, none⟩ = some (.slice p.A p.zs.length p.c) ∧ W.cell? ⟨wr.heap.size, 5, none⟩ = some (.slice p.F p.fs.length p.fc)) (fun j => j == 7 || j == 8 || j == 9) (by kernel_rfl) ?_
      have hHeld : wa.drew.cell? ⟨wr.heap.size, 3, none⟩ = some (.slice p.A p.zs.length p.c) ∧ wa.drew.cell? ⟨wr.heap.size, 5, none⟩ = some (.slice p.F p.fs.length p.fc) := Z0
      refine Reg.takeT (i := 0) (v := ?_) rfl (by kernel_rfl) (by kernel_rfl) (by kernel_rfl) (by kernel_rfl) (fun _ _ _ h => h) (Or.inl ⟨by rfl, ?_⟩) (by assumption) ?_
      rotate_left 1
      focus (intro w hSw; (try dsimp only at hSw); go_simp; (try with_reducible rfl))
      try simp only [List.getElem_toArray, List.getElem_cons_succ, List.getElem_cons_zero, Act.put, List.setIfInBounds_toArray, List.set_cons_zero, List.set_cons_succ]
      refine Reg.takeT (i := 1) (v := ?_) rfl (by kernel_rfl) (by kernel_rfl) (by kernel_rfl) (by kernel_rfl) (fun _ _ _ h => h) (Or.inl ⟨by rfl, ?_⟩) (by assumption) ?_
      rotate_left 1
      focus (intro w hSw; (try dsimp only at hSw); go_simp; (try with_reducible rfl))
      try simp only [List.getElem_toArray, List.getElem_cons_succ, List.getElem_cons_zero, Act.put, List.setIfInBounds_toArray, List.set_cons_zero, List.set_cons_succ]
      refine Reg.takeT (i := 3) (v := ?_) rfl (by kernel_rfl) (by kernel_rfl) (by kernel_rfl) (by kernel_rfl) (fun _ _ _ h => h) (Or.inl ⟨by rfl, ?_⟩) (by assumption) ?_
      rotate_left 1
      focus (intro w hSw; (try dsimp only at hSw); go_simp; (try with_reducible rfl))
      try simp only [List.getElem_toArray, List.getElem_cons_succ, List.getElem_cons_zero, Act.put, List.setIfInBounds_toArray, List.set_cons_zero, List.set_cons_succ]
      refine Reg.takeT (i := 4) (v := ?_) rfl (by kernel_rfl) (by kernel_rfl) (by kernel_rfl) (by kernel_rfl) (fun _ _ _ h => h) (Or.inl ⟨by rfl, ?_⟩) (by assumption) ?_
      rotate_left 1
      focus (intro w hSw; (try dsimp only at hSw); go_simp; (try with_reducible rfl))
      try simp only [List.getElem_toArray, List.getElem_cons_succ, List.getElem_cons_zero, Act.put, List.setIfInBounds_toArray, List.set_cons_zero, List.set_cons_succ]
      clear hHeld
      refine Reg.oneT (i := 2) rfl (by kernel_rfl) (fun K hK => ?_)
      go_simp
      refine (clone8_any p.A p.zs p.c w.heap.size _ (HRS.out.1.below (HWA.out.drew)) (show w.heap.size ≤ wa.drew.heap.size from HWA.out.size) (by omega) HN.out.1).mono ?_
      rintro e w2 ⟨A2, c2, rfl, o2, b2⟩
      have b2' : Below wa.heap.size wa w2 := below_drawn b2
      have HS2 := hide (HS.out.call b2')
      have HA2 := hide (And.intro (o2.down (show w.heap.size ≤ wa.drew.heap.size from HWA.out.size)) (fun k (hk : blk A2 c2 = some k) => (show wr.heap.size ≤ k from Nat.le_trans HBA.out.size ((o2.lt k hk).1))))
      have HBt := hide (HBA.out.trans (b2'.mono HBA.out.size))
      have hHeld : w2.cell? ⟨wr.heap.size, 3, none⟩ = some (.slice p.A p.zs.length p.c) ∧ w2.cell? ⟨wr.heap.size, 5, none⟩ = some (.slice p.F p.fs.length p.fc) := ⟨HS2.out.cell 3, HS2.out.cell 5⟩
      clear o2 b2 b2' HS Z0
      refine hK.out _ _ hHeld ?_
      clear hK K
      try simp only [List.getElem_toArray, List.getElem_cons_succ, List.getElem_cons_zero, Act.put, List.setIfInBounds_toArray, List.set_cons_zero, List.set_cons_succ]
      refine Reg.takeT (i := 6) (v := ?_) rfl (by kernel_rfl) (by kernel_rfl) (by kernel_rfl) (by kernel_rfl) (fun _ _ _ h => h) (Or.inl ⟨by rfl, ?_⟩) (by assumption) ?_
      rotate_left 1
      focus (intro w hSw; (try dsimp only at hSw); go_simp; (try with_reducible rfl))
      try simp only [List.getElem_toArray, List.getElem_cons_succ, List.getElem_cons_zero, Act.put, List.setIfInBounds_toArray, List.set_cons_zero, List.set_cons_succ]
      clear hHeld
      refine Reg.oneT (i := 5) rfl (by kernel_rfl) (fun K hK => ?_)
      go_simp
      have HW2 := hide (HB.out.trans (HBt.out.mono HB.out.size))
      refine (cloneF_any p.F p.fs p.fc w.heap.size _ (HRS.out.2.below HW2.out) HW2.out.size (by omega) HN.out.2).mono ?_
      rintro e w4 ⟨A5, c5, rfl, o5, b5⟩
      have HS4 := hide (HS2.out.call b5)
      have HA4 := hide (HA2.out.1.call b5)
      have HA2k := hide HA2.out.2
      have HF4 := hide (And.intro (o5.down HW2.out.size) (fun k (hk : blk A5 c5 = some k) => (show wr.heap.size ≤ k from Nat.le_trans HBt.out.size ((o5.lt k hk).1))))
      have HB4 := hide (HBt.out.trans (b5.mono HBt.out.size))
      have hHeld : w4.cell? ⟨wr.heap.size, 3, none⟩ = some (.slice p.A p.zs.length p.c) ∧ w4.cell? ⟨wr.heap.size, 5, none⟩ = some (.slice p.F p.fs.length p.fc) := ⟨HS4.out.cell 3, HS4.out.cell 5⟩
      have sf3 := HS4.out.frozen 3
      have sf5 := HS4.out.frozen 5
      have s3 := hHeld.1
      have s5 := hHeld.2
      have hSl4 := HS4.out.lt
      clear o5 b5 HS2 HA2 HBt HW2
      refine hK.out _ _ hHeld ?_
      clear hK K
      try simp only [List.getElem_toArray, List.getElem_cons_succ, List.getElem_cons_zero, Act.put, List.setIfInBounds_toArray, List.set_cons_zero, List.set_cons_succ]
      refine Reg.lastT (i := 7) rfl (by kernel_rfl) (by rfl) (fun K hK => ?_)
      go_simp
      refine hK.out _ _ ?_
      clear hK K
      try simp only [List.getElem_toArray, List.getElem_cons_succ, List.getElem_cons_zero, Act.put, List.setIfInBounds_toArray, List.set_cons_zero, List.set_cons_succ]
      refine Reg.lastT (i := 8) rfl (by kernel_rfl) (by rfl) (fun K hK => ?_)
      go_simp
      refine hK.out _ _ ?_
      clear hK K
      try simp only [List.getElem_toArray, List.getElem_cons_succ, List.getElem_cons_zero, Act.put, List.setIfInBounds_toArray, List.set_cons_zero, List.set_cons_succ]
      refine Reg.lastT (i := 9) rfl (by kernel_rfl) (by rfl) (fun K hK => ?_)
      go_simp
      refine hK.out _ _ ?_
      clear hK K hHeld s3 s5
      try simp only [List.getElem_toArray, List.getElem_cons_succ, List.getElem_cons_zero, Act.put, List.setIfInBounds_toArray, List.set_cons_zero, List.set_cons_succ]
      refine Reg.doneT (by kernel_rfl) ?_ _
      have HS5 := hide (show Box (w4.setCell ⟨wr.heap.size, 3, none⟩ (.slice A2 p.zs.length c2)) wr.heap.size 77 #[.string p.nm, .int .i64 p.kd, .int .i64 p.al, .slice A2 p.zs.length c2, .int .i64 p.sz, .slice p.F p.fs.length p.fc] from HS4.out.set 3 _)
      have HA5 := hide (HA4.out.set (a := ⟨wr.heap.size, 3, none⟩) (HA4.out.box HS4.out (by decide)) (.slice A2 p.zs.length c2))
      have HF5 := hide (And.intro (HF4.out.1.set (a := ⟨wr.heap.size, 3, none⟩) (HF4.out.1.box HS4.out (by decide)) (.slice A2 p.zs.length c2)) HF4.out.2)
      have HBt := hide (HB4.out.setCell (p := ⟨wr.heap.size, 3, none⟩) (Nat.le_refl _) (.slice A2 p.zs.length c2))
      clear HS4 HA4 HF4 HB4 sf3 sf5
      generalize w4.setCell ⟨wr.heap.size, 3, none⟩ (.slice A2 p.zs.length c2) = w5 at *
      have s0 := HS5.out.cell 0
      have s1 := HS5.out.cell 1
      have s2 := HS5.out.cell 2
      have s3 := HS5.out.cell 3
      have s4 := HS5.out.cell 4
      have s5 := HS5.out.cell 5
      have sf5 := HS5.out.frozen 5
      simp only [List.getElem?_toArray, List.getElem?_cons_zero, List.getElem?_cons_succ] at s0 s1 s2 s3 s4 s5
      have hSl5 := HS5.out.lt
      -- the world behind the stores into the section's variable
      have HB6 := hide (show Below wr.heap.size wr (w5.setCell ⟨wr.heap.size, 5, none⟩ (.slice A5 p.fs.length c5)) from HBt.out.setCell (p := ⟨wr.heap.size, 5, none⟩) (Nat.le_refl _) _)
      have HA6 := hide (HA5.out.set (a := ⟨wr.heap.size, 5, none⟩) (HA5.out.box HS5.out (by decide)) (.slice A5 p.fs.length c5))
      have HF6 := hide (HF5.out.1.set (a := ⟨wr.heap.size, 5, none⟩) (HF5.out.1.box HS5.out (by decide)) (.slice A5 p.fs.length c5))
      have HFk := hide HF5.out.2
      have HX6 := hide (HX.out.call HB6.out)
      have x0 := HX6.out.cell 0
      have x1 := HX6.out.cell 1
      have xf0 := HX6.out.frozen 0
      simp only [List.getElem?_toArray, List.getElem?_cons_zero, List.getElem?_cons_succ] at x0 x1
      have HSS6 := hide (show Box (w5.setCell ⟨wr.heap.size, 5, none⟩ (.slice A5 p.fs.length c5)) wr.heap.size 77 #[.string p.nm, .int .i64 p.kd, .int .i64 p.al, .slice A2 p.zs.length c2, .int .i64 p.sz, .slice A5 p.fs.length c5] from HS5.out.set 5 _)
      have u0 := HSS6.out.cell 0
      have u1 := HSS6.out.cell 1
      have u2 := HSS6.out.cell 2
      have u3 := HSS6.out.cell 3
      have u4 := HSS6.out.cell 4
      have u5 := HSS6.out.cell 5
      simp only [List.getElem?_toArray, List.getElem?_cons_zero, List.getElem?_cons_succ] at u0 u1 u2 u3 u4 u5
      have HO6 := hide (HO.out.call HB6.out)
      have HY6 := hide (HY.out.call HB6.out)
      have HV6 := hide (HV.out.call HB6.out)
      have HRR6 := hide (HRR.out.call HB6.out)
      have HBW6 := hide (HB.out.trans (HB6.out.mono HB.out.size))
      have HQlt := hide (fun x (hx : x ∈ qs) k (hk : sblk x k) => (show k < wr.heap.size from ((HO.out.2.1 x hx).lt k hk).2))
      have hcl : (cellsOf secC qs).length = k * 6 := by rw [cellsOf_len secC_len, HQ.out.1]
      clear HA5 HF5 HX HO HY HV HRR HB HBt HS5
      have hz6 : (w5.setCell ⟨wr.heap.size, 5, none⟩ (.slice A5 p.fs.length c5)).heap.size = w5.heap.size := by simp [World.setCell]
      have HSEC := hide (show Row ((w5.setCell ⟨wr.heap.size, 5, none⟩ (.slice A5 p.fs.length c5)).alloc (.cells #[.string p.nm, .int .i64 p.kd, .int .i64 p.al, .slice A2 p.zs.length c2, .int .i64 p.sz, .slice A5 p.fs.length c5] 77)) w.heap.size 77 6 Aq k cq (cellsOf secC qs) from by
        have h := (HO6.out.1).alloc (.cells #[.string p.nm, .int .i64 p.kd, .int .i64 p.al, .slice A2 p.zs.length c2, .int .i64 p.sz, .slice A5 p.fs.length c5] 77)
        rw [HQ.out.1] at h
        exact h)
      have HW7 := hide (HBW6.out.alloc HBW6.out.size (.cells #[.string p.nm, .int .i64 p.kd, .int .i64 p.al, .slice A2 p.zs.length c2, .int .i64 p.sz, .slice A5 p.fs.length c5] 77))
      go_wp2_with (at_builtin; refine wpList_app _ rfl (.tmp 26) (.tmp 28) 28 rfl 77 ix (.agg #[.string ByteArray.empty, .int .i64 0, .int .i64 0, .slice none 0 0, .int .i64 0, .slice none 0 0]) 6 88 Tryz.underlying28 HIX.out.1 HIX.out.2.1 HIX.out.2.2.1 HIX.out.2.2.2 rfl (by decide) w.heap.size Aq k cq (cellsOf secC qs) rfl HSEC.out HW7.out.size (some ⟨w5.heap.size, 0, none⟩) 1 1 [.string p.nm, .int .i64 p.kd, .int .i64 p.al, .slice A2 p.zs.length c2, .int .i64 p.sz, .slice A5 p.fs.length c5] rfl (rd_lit (w5.setCell ⟨wr.heap.size, 5, none⟩ (.slice A5 p.fs.length c5)) #[.string p.nm, .int .i64 p.kd, .int .i64 p.al, .slice A2 p.zs.length c2, .int .i64 p.sz, .slice A5 p.fs.length c5] 77 _ hz6.symm) rfl (fun h => by cases h) ?o1 ?n1 ?n2 ?_)
      case o1 => intro u hu; simp only [List.mem_cons, List.not_mem_nil, or_false] at hu; rcases hu with rfl | rfl | rfl | rfl | rfl | rfl <;> rfl
      case n1 => unfold maxLen; omega
      case n2 => omega
      intro A8 n8 c8 w8 hn8 o8 g8 k8
      subst hn8
      have HX7 := hide ((HX6.out.alloc (.cells #[.string p.nm, .int .i64 p.kd, .int .i64 p.al, .slice A2 p.zs.length c2, .int .i64 p.sz, .slice A5 p.fs.length c5] 77)).grown g8 (fun j hj => HSEC.out.box (HX6.out.alloc _) (by decide) j hj))
      have HV7 := hide ((HV6.out.alloc (.cells #[.string p.nm, .int .i64 p.kd, .int .i64 p.al, .slice A2 p.zs.length c2, .int .i64 p.sz, .slice A5 p.fs.length c5] 77)).grown g8 (fun j hj => HSEC.out.box (HV6.out.alloc _) (by decide) j hj))
      have HRR7 := hide ((HRR6.out.alloc (.cells #[.string p.nm, .int .i64 p.kd, .int .i64 p.al, .slice A2 p.zs.length c2, .int .i64 p.sz, .slice A5 p.fs.length c5] 77)).grown g8 (fun j hj => HSEC.out.box (HRR6.out.alloc _) (by decide) j hj))
      have HY7 := hide ((HY6.out.alloc (.cells #[.string p.nm, .int .i64 p.kd, .int .i64 p.al, .slice A2 p.zs.length c2, .int .i64 p.sz, .slice A5 p.fs.length c5] 77)).grown g8 (fun j hj h => apartT (HY6.out.alloc _) HSEC.out (by decide) j hj h))
      have HBW7 := hide (HW7.out.grown g8 HW7.out.size (fun j hj => (HSEC.out.lt j hj).1))
      have hgrow : ∀ x : SV, RwS ((w5.setCell ⟨wr.heap.size, 5, none⟩ (.slice A5 p.fs.length c5)).alloc (.cells #[.string p.nm, .int .i64 p.kd, .int .i64 p.al, .slice A2 p.zs.length c2, .int .i64 p.sz, .slice A5 p.fs.length c5] 77)) w.heap.size x → RwS w8 w.heap.size x := fun x hx => ⟨hx.1.grown g8 (fun j hj h => apartT hx.1 HSEC.out (by decide) j hj h), hx.2.grown g8 (fun j hj h => apartT hx.2 HSEC.out (by decide) j hj h)⟩
      have hq7 : RwS ((w5.setCell ⟨wr.heap.size, 5, none⟩ (.slice A5 p.fs.length c5)).alloc (.cells #[.string p.nm, .int .i64 p.kd, .int .i64 p.al, .slice A2 p.zs.length c2, .int .i64 p.sz, .slice A5 p.fs.length c5] 77)) w.heap.size ⟨p.nm, p.kd, p.al, A2, c2, p.zs, p.sz, A5, c5, p.fs⟩ := ⟨HA6.out.alloc _, HF6.out.alloc _⟩
      have hqs7 : ∀ x ∈ qs, RwS ((w5.setCell ⟨wr.heap.size, 5, none⟩ (.slice A5 p.fs.length c5)).alloc (.cells #[.string p.nm, .int .i64 p.kd, .int .i64 p.al, .slice A2 p.zs.length c2, .int .i64 p.sz, .slice A5 p.fs.length c5] 77)) w.heap.size x := fun x hx => (HO6.out.2.1 x hx).call ((Below.refl _ _).alloc (Nat.le_refl _) _)
      have hX7 := HX7.out
      have HOW := hide (show OwnSs (w8.setCell ⟨X, 0, none⟩ (.slice A8 (k + 1) c8)) w.heap.size A8 c8 (qs ++ [⟨p.nm, p.kd, p.al, A2, c2, p.zs, p.sz, A5, c5, p.fs⟩]) from by
        refine ⟨?_, ?_, ?_⟩
        · have h := (show Row w8 w.heap.size 77 6 A8 (k + 1) c8 _ from o8).set (a := ⟨X, 0, none⟩) ((show Row w8 w.heap.size 77 6 A8 (k + 1) c8 _ from o8).box hX7 (by decide)) (.slice A8 (k + 1) c8)
          rw [cells_snoc, List.length_append, HQ.out.1]
          exact h
        · refine RwSs.snoc (fun x hx => ?_) ?_
          · exact (hgrow x (hqs7 x hx)).set (a := ⟨X, 0, none⟩) ((hgrow x (hqs7 x hx)).box hX7 (by decide) (by decide)) _
          · exact (hgrow _ hq7).set (a := ⟨X, 0, none⟩) ((hgrow _ hq7).box hX7 (by decide) (by decide)) _
        · refine HO6.out.2.2.snoc (N := wr.heap.size) HQlt.out ?_
          rintro j (hj | hj)
          · exact HA2k.out j hj
          · exact HFk.out j hj)
      have HX8 := hide (show Box (w8.setCell ⟨X, 0, none⟩ (.slice A8 (k + 1) c8)) X 31 #[.slice A8 (k + 1) c8, .slice A1 ys.length c1] from hX7.set 0 _)
      have HY8 := hide (HY7.out.set (a := ⟨X, 0, none⟩) (HY7.out.box hX7 (by decide)) (.slice A8 (k + 1) c8))
      have HV8 := hide (HV7.out.far (p := ⟨X, 0, none⟩) (Nat.ne_of_lt hVX) (.slice A8 (k + 1) c8))
      have HRR8 := hide (HRR7.out.far (p := ⟨X, 0, none⟩) (Nat.ne_of_lt hRX) (.slice A8 (k + 1) c8))
      have HB8 := hide (HBW7.out.setCell (p := ⟨X, 0, none⟩) (Nat.le_of_lt hVX) (.slice A8 (k + 1) c8))
      have x0 := hX7.cell 0
      have x1 := hX7.cell 1
      have xf0 := hX7.frozen 0
      simp only [List.getElem?_toArray, List.getElem?_cons_zero, List.getElem?_cons_succ] at x0 x1
      have hxl8 := hX7.lt
      clear o8 g8 k8 hgrow hq7 hqs7 hX7 HX7 HV7 HRR7 HY7 HBW7 HSEC HW7 HO6 HY6 HV6 HRR6 HBW6 HX6 HSS6 u0 u1 u2 u3 u4 u5 s0 s1 s2 s3 s4 s5 sf5
      go_wp2_with fail
      refine ⟨⟨k + 1, qs ++ [⟨p.nm, p.kd, p.al, A2, c2, p.zs, p.sz, A5, c5, p.fs⟩], A8, c8, by omega, by simp [HQ.out.1], by go_num, ?_, HOW.out, HX8.out, HY8.out, HV8.out, HRR8.out, HB8.out⟩, by simp [intOf]; omega⟩
      rw [← HD.out, List.map_append, List.map_append]
      rfl
    · have e : k = ps.length := by omega
      have hqd' : qs.map SV.d = ps.map SV.d := by rw [hqd, List.take_of_length_le (by omega)]
      have HOO := hide (show OwnO wr w.heap.size ⟨Aq, cq, qs, A1, c1, ys⟩ from ⟨ho, hrow⟩)
      have HDD := hide (show OV.d ⟨Aq, cq, qs, A1, c1, ys⟩ = OV.d ⟨A, c, ps, Y, yc, ys⟩ by simp only [OV.d, hqd'])
      have HNE := hide (show ∀ j, oblk ⟨Aq, cq, qs, A1, c1, ys⟩ j → j ≠ R from by
        rintro j ((hj | ⟨x, hx, hj⟩) | hj)
        · exact ho.1.box hrr (by decide) j hj
        · exact (ho.2.1 x hx).box hrr (by decide) (by decide) j hj
        · exact hrow.box hrr (by decide) j hj)
      have HFIN := hide (CObject.ret_object HOO.out HB.out HNE.out (Nat.le_of_lt hVR))
      rw [HDD.out] at HFIN
      have y0 := hrr.cell 0
      have y1 := hrr.cell 1
      have yf0 := hrr.frozen 0
      have yf1 := hrr.frozen 1
      have hrl := hrr.lt
      simp only [List.getElem?_toArray, List.getElem?_cons_zero, List.getElem?_cons_succ] at y0 y1
      have kk := (HRR.out.set 0 (.slice Aq qs.length cq)).set 1 (.slice A1 ys.length c1)
      have k0 := kk.cell 0
      have k1 := kk.cell 1
      simp only [List.setIfInBounds_toArray, List.set_cons_zero, List.set_cons_succ, List.getElem?_toArray, List.getElem?_cons_zero, List.getElem?_cons_succ] at k0 k1
      clear kk ho hx hrow hv hrr hb hqd hqd' e
      subst hql
      go_wp2_with fail
      exact bodyPost_ret (v := OV.v ⟨Aq, cq, qs, A1, c1, ys⟩) (by simp [results, Tryz.results47, go_sem, OV.v, k0, k1]) rfl HFIN.out
end Go.Proofs.YtmglgjchemecjaaGreat.CCopyI
/- Stores into an object of one's own: a byte, a fixup's To, a symbol. -/
namespace Go.Proofs.YtmglgjchemecjaaGreat.BStore
set_option maxRecDepth 200000
open Go.ChangeShapes Go.WideShapes Go.ChangeAt Go.RowKit Kit CFixups CSymbols PObj BObj CMarkRows
theorem own_of {w : World} {base : Nat} {e : TypeId} {size n c : Nat} {A : Option Addr} {xs : List Value} (h : Row w base e size A n c xs) (hn : 0 < n) :
    ∃ g, A = some ⟨g, 0, none⟩ ∧ base ≤ g ∧ g < w.heap.size ∧ blk A c = some g ∧ w.ownsRow base e size (.slice (some ⟨g, 0, none⟩) n c) n xs := by
  have hc : c ≠ 0 := by
    have := h.cap.1
    omega
  have hown : w.ownsRow base e size (.slice A n c) n xs := h.elim (fun h => absurd h.2.1 hc) id
  rcases hown.2 with ⟨hv, h0⟩ | ⟨g, cap, c', hv, hN, _⟩
  · omega
  · injection hv with hA
    subst hA
    have hb : blk (some ⟨g, 0, none⟩) c = some g := by
      unfold blk
      rw [if_neg hc]
      rfl
    exact ⟨g, rfl, hN, (h.lt g hb).2, hb, hown⟩
/-- One section's rows turn, all else stays. -/
theorem OwnO.swap {w w' : World} {base c yc : Nat} {A Y : Option Addr} {l1 l2 : List SV} {q : SV} {ys : List YD} (h : OwnO w base ⟨A, c, l1 ++ q :: l2, Y, yc, ys⟩) (q' : SV)
    (hs : secC q' = secC q) (h1 : q'.A = q.A) (h2 : q'.c = q.c) (h3 : q'.F = q.F) (h4 : q'.fc = q.fc) (hq' : RwS w' base q') (g : Nat) (hg : sblk q g) (hk : ∀ k, k ≠ g → w'.heap[k]? = w.heap[k]?) :
    OwnO w' base ⟨A, c, l1 ++ q' :: l2, Y, yc, ys⟩ := by
  obtain ⟨⟨hrow, hrw, hpw⟩, hy⟩ := h
  simp only at hrow hrw hpw hy
  have hq := hrw q (by simp)
  unfold PwSs at hpw
  obtain ⟨p1, p2, p3⟩ := List.pairwise_append.1 hpw
  obtain ⟨p4, p5⟩ := List.pairwise_cons.1 p2
  have happ : ∀ x, RwS w base x → (ApS x q ∨ ApS q x) → RwS w' base x := by
    rintro x hx ha
    refine ⟨hx.1.keep fun k hb => hk k ?_, hx.2.keep fun k hb => hk k ?_⟩
    · rintro rfl
      rcases hg with hg | hg
      · rcases ha with ha | ha
        · exact ha.1 _ hb hg
        · exact ha.1 _ hg hb
      · exact apartT hx.1 hq.2 (by decide) _ hb hg
    · rintro rfl
      rcases hg with hg | hg
      · exact apartT hx.2 hq.1 (by decide) _ hb hg
      · rcases ha with ha | ha
        · exact ha.2 _ hb hg
        · exact ha.2 _ hg hb
  have hap : ∀ x, (ApS x q' ↔ ApS x q) ∧ (ApS q' x ↔ ApS q x) := fun x => by
    unfold ApS
    rw [h1, h2, h3, h4]
    exact ⟨Iff.rfl, Iff.rfl⟩
  refine ⟨⟨?_, ?_, ?_⟩, ?_⟩
  · have e1 : cellsOf secC (l1 ++ q' :: l2) = cellsOf secC (l1 ++ q :: l2) := by simp [cellsOf, hs]
    have e2 : (l1 ++ q' :: l2).length = (l1 ++ q :: l2).length := by simp
    show Row w' base _ 6 A (l1 ++ q' :: l2).length c (cellsOf secC (l1 ++ q' :: l2))
    rw [e1, e2]
    refine hrow.keep fun k hb => hk k ?_
    rintro rfl
    rcases hg with hg | hg
    · exact apartT hrow hq.1 (by decide) _ hb hg
    · exact apartT hrow hq.2 (by decide) _ hb hg
  · intro x hx
    rcases List.mem_append.1 hx with hx | hx
    · exact happ x (hrw x (by simp [hx])) (.inl (p3 x hx q (List.mem_cons_self ..)))
    · rcases List.mem_cons.1 hx with rfl | hx
      · exact hq'
      · exact happ x (hrw x (by simp [hx])) (.inr (p4 x hx))
  · show (l1 ++ q' :: l2).Pairwise ApS
    refine List.pairwise_append.2 ⟨p1, List.pairwise_cons.2 ⟨fun x hx => (hap x).2.2 (p4 x hx), p5⟩, fun a ha b hb => ?_⟩
    rcases List.mem_cons.1 hb with rfl | hb
    · exact (hap a).1.2 (p3 a ha q (List.mem_cons_self ..))
    · exact p3 a ha b (List.mem_cons_of_mem _ hb)
  · show Row w' base _ 4 Y ys.length yc _
    refine hy.keep fun k hb => hk k ?_
    rintro rfl
    rcases hg with hg | hg
    · exact apartT hy hq.1 (by decide) _ hb hg
    · exact apartT hy hq.2 (by decide) _ hb hg
/-- The block of a section's row is none of another type's box. -/
theorem setInts8 (l : List Int) (j : Nat) (x : Int) : (ints .u8 l).set j (.int .u8 x) = ints .u8 (l.set j x) := by simp [ints, List.map_set]
theorem OwnO.storeB {w : World} {base c yc : Nat} {A Y : Option Addr} {l1 l2 : List SV} {q : SV} {ys : List YD} (h : OwnO w base ⟨A, c, l1 ++ q :: l2, Y, yc, ys⟩) {g : Nat} (hA : q.A = some ⟨g, 0, none⟩) (i : Nat) (hi : i < q.zs.length) (x : Int) :
    OwnO (w.setCell ⟨g, i, none⟩ (.int .u8 x)) base ⟨A, c, l1 ++ { q with zs := q.zs.set i x } :: l2, Y, yc, ys⟩ := by
  have hq : RwS w base q := h.1.2.1 q (by simp)
  obtain ⟨g', hA', _, _, hb, hown⟩ := own_of hq.1 (by omega)
  rw [hA] at hA'
  simp only [Option.some.injEq, Addr.mk.injEq, and_true] at hA'
  subst hA'
  refine OwnO.swap h { q with zs := q.zs.set i x } (by simp [secC]) rfl rfl rfl rfl ⟨?_, ?_⟩ g (.inl hb) (fun k hk => Below.heap_setCell _ _ _ k hk)
  · refine .inr ?_
    show (w.setCell _ _).ownsRow base _ 1 (.slice q.A (q.zs.set i x).length q.c) (q.zs.set i x).length (ints .u8 (q.zs.set i x))
    rw [List.length_set, ← setInts8, hA]
    exact (hown.stored i _).1
  · exact hq.2.set (a := ⟨g, i, none⟩) (fun k hk e => apartT hq.2 hq.1 (by decide) k hk (by rw [hb, e])) _
theorem setFix (l : List FD) (j : Nat) (z : FD) (hz : l[j]? = some z) (x : Int) : (cellsOf fixupC l).set (j * 4 + 2) (.int .i64 x) = cellsOf fixupC (l.set j (z.1, z.2.1, x, z.2.2.2)) := by
  induction l generalizing j with
  | nil => cases hz
  | cons a l ih =>
    have hc : ∀ u (l : List FD), cellsOf fixupC (u :: l) = fixupC u ++ cellsOf fixupC l := fun u l => by simp [cellsOf]
    cases j with
    | zero =>
      simp only [List.getElem?_cons_zero, Option.some.injEq] at hz
      subst hz
      simp [hc, fixupC]
    | succ j =>
      have e : (j + 1) * 4 + 2 = (fixupC a).length + (j * 4 + 2) := by rw [fixupC_len]; omega
      rw [hc, List.set_cons_succ, hc, e, List.set_append_right _ _ (by omega), Nat.add_sub_cancel_left]
      rw [ih j (by simpa using hz)]
theorem OwnO.storeF {w : World} {base c yc : Nat} {A Y : Option Addr} {l1 l2 : List SV} {q : SV} {ys : List YD} (h : OwnO w base ⟨A, c, l1 ++ q :: l2, Y, yc, ys⟩) {g : Nat} (hF : q.F = some ⟨g, 0, none⟩) (i : Nat) (z : FD) (hz : q.fs[i]? = some z) (x : Int) :
    OwnO (w.setCell ⟨g, i * 4 + 2, none⟩ (.int .i64 x)) base ⟨A, c, l1 ++ { q with fs := q.fs.set i (z.1, z.2.1, x, z.2.2.2) } :: l2, Y, yc, ys⟩ := by
  have hq : RwS w base q := h.1.2.1 q (by simp)
  have hi : i < q.fs.length := (List.getElem?_eq_some_iff.1 hz).1
  obtain ⟨g', hF', _, _, hb, hown⟩ := own_of hq.2 (by omega)
  rw [hF] at hF'
  simp only [Option.some.injEq, Addr.mk.injEq, and_true] at hF'
  subst hF'
  refine OwnO.swap h { q with fs := q.fs.set i (z.1, z.2.1, x, z.2.2.2) } (by simp [secC]) rfl rfl rfl rfl ⟨?_, ?_⟩ g (.inr hb) (fun k hk => Below.heap_setCell _ _ _ k hk)
  · exact hq.1.set (a := ⟨g, i * 4 + 2, none⟩) (fun k hk e => apartT hq.1 hq.2 (by decide) k hk (by rw [hb, e])) _
  · refine .inr ?_
    show (w.setCell _ _).ownsRow base _ 4 (.slice q.F (q.fs.set i (z.1, z.2.1, x, z.2.2.2)).length q.fc) (q.fs.set i (z.1, z.2.1, x, z.2.2.2)).length (cellsOf fixupC (q.fs.set i (z.1, z.2.1, x, z.2.2.2)))
    rw [List.length_set, ← setFix _ _ _ hz, hF]
    exact (hown.stored (i * 4 + 2) _).1
theorem setSym (l : List YD) (j : Nat) (hj : j < l.length) (z : YD) : ((((cellsOf symbolC l).set (j * 4) (.string z.1)).set (j * 4 + 1) (.int .i64 z.2.1)).set (j * 4 + 2) (.int .i64 z.2.2.1)).set (j * 4 + 3) (.int .i64 z.2.2.2) = cellsOf symbolC (l.set j z) := by
  induction l generalizing j with
  | nil => cases hj
  | cons a l ih =>
    have hc : ∀ u (l : List YD), cellsOf symbolC (u :: l) = symbolC u ++ cellsOf symbolC l := fun u l => by simp [cellsOf]
    cases j with
    | zero => simp [hc, symbolC]
    | succ j =>
      have e : ∀ m, (j + 1) * 4 + m = (symbolC a).length + (j * 4 + m) := fun m => by rw [symbolC_len]; omega
      have e0 : (j + 1) * 4 = (symbolC a).length + (j * 4) := by rw [symbolC_len]; omega
      rw [hc, List.set_cons_succ, hc, e, e, e, e0, List.set_append_right _ _ (by omega), Nat.add_sub_cancel_left, List.set_append_right _ _ (by omega), Nat.add_sub_cancel_left, List.set_append_right _ _ (by omega), Nat.add_sub_cancel_left, List.set_append_right _ _ (by omega), Nat.add_sub_cancel_left]
      rw [ih j (by simpa using hj)]
/-- A symbol put in place. -/
def putY (w : World) (g i : Nat) (z : YD) : World := (((w.setCell ⟨g, i, none⟩ (.string z.1)).setCell ⟨g, i + 1, none⟩ (.int .i64 z.2.1)).setCell ⟨g, i + 2, none⟩ (.int .i64 z.2.2.1)).setCell ⟨g, i + 3, none⟩ (.int .i64 z.2.2.2)
theorem putY_block (w : World) (g i : Nat) (z : YD) (k : Nat) (hk : k ≠ g) : (putY w g i z).heap[k]? = w.heap[k]? := by
  unfold putY
  rw [Below.heap_setCell _ _ _ k hk, Below.heap_setCell _ _ _ k hk, Below.heap_setCell _ _ _ k hk, Below.heap_setCell _ _ _ k hk]
theorem putY_below {B : Nat} {a w : World} {g i : Nat} {z : YD} (h : Below B a w) (hg : B ≤ g) : Below B a (putY w g i z) :=
  (((h.setCell (p := ⟨g, i, none⟩) hg _).setCell (p := ⟨g, i + 1, none⟩) hg _).setCell (p := ⟨g, i + 2, none⟩) hg _).setCell (p := ⟨g, i + 3, none⟩) hg _
theorem OwnO.storeY {w : World} {base c yc : Nat} {A : Option Addr} {ps : List SV} {g : Nat} {ys : List YD} (h : OwnO w base ⟨A, c, ps, some ⟨g, 0, none⟩, yc, ys⟩) (i : Nat) (hi : i < ys.length) (z : YD) :
    OwnO (putY w g (i * 4) z) base ⟨A, c, ps, some ⟨g, 0, none⟩, yc, ys.set i z⟩ := by
  obtain ⟨⟨hrow, hrw, hpw⟩, hy⟩ := h
  simp only at hrow hrw hpw hy
  obtain ⟨g', hA', _, _, hb, hown⟩ := own_of hy (by omega)
  simp only [Option.some.injEq, Addr.mk.injEq, and_true] at hA'
  subst hA'
  have hkeep := putY_block w g (i * 4) z
  refine ⟨⟨hrow.keep fun k hk => hkeep k ?_, fun p hp => ⟨(hrw p hp).1.keep fun k hk => hkeep k ?_, (hrw p hp).2.keep fun k hk => hkeep k ?_⟩, hpw⟩, ?_⟩
  · rintro rfl
    exact apartT hrow hy (by decide) _ hk hb
  · rintro rfl
    exact apartT (hrw p hp).1 hy (by decide) _ hk hb
  · rintro rfl
    exact apartT (hrw p hp).2 hy (by decide) _ hk hb
  · refine .inr ?_
    show (putY w g (i * 4) z).ownsRow base _ 4 (.slice (some ⟨g, 0, none⟩) (ys.set i z).length yc) (ys.set i z).length (cellsOf symbolC (ys.set i z))
    rw [List.length_set, ← setSym _ _ hi]
    exact ((((hown.stored (i * 4) _).1.stored (i * 4 + 1) _).1.stored (i * 4 + 2) _).1.stored (i * 4 + 3) _).1
/-- A box of another type than the rows' stays when the object is stored into. -/
theorem cell_own {w : World} {base : Nat} {e : TypeId} {size n c : Nat} {g : Nat} {xs : List Value} (h : w.ownsRow base e size (.slice (some ⟨g, 0, none⟩) n c) n xs) : ∃ cs, Box w g e cs := box_of_own h
end Go.Proofs.YtmglgjchemecjaaGreat.BStore
/- Contracts of the laws' helpers on []int: the copy, the comparison, the marks. -/
namespace Go.Proofs.YtmglgjchemecjaaGreat.CInts
set_option maxRecDepth 200000
open Go.ChangeShapes Go.WideShapes Go.ChangeAt Go.RowKit Kit
theorem info64 : (Tryz.prog.info? 3).map (fun i => (i.zero, i.size, i.bytes)) = some (some (.int .i64 0), 1, 8) := by kernel_rfl
def marks (k0 : Int) (n : Nat) : List Int := (List.range n).map fun (i : Nat) => k0 + (i : Int)
theorem marks_len (k0 : Int) (n : Nat) : (marks k0 n).length = n := by simp [marks]
theorem marks_at (k0 : Int) (n i : Nat) (h : i < n) : (marks k0 n)[i]'(by rw [marks_len]; exact h) = (k0 + i) := by simp [marks]
theorem marks_set (k0 : Int) (n i : Nat) (xs : List Int) (h : i < xs.length) (hn : xs.length = n) : (marks k0 i ++ xs.drop i).set i ((k0 + i)) = marks k0 (i + 1) ++ xs.drop (i + 1) := by
  rw [List.set_append_right _ _ (by rw [marks_len]; exact Nat.le_refl _), marks_len, Nat.sub_self, List.drop_eq_getElem_cons h, List.set_cons_zero]
  simp [marks, List.range_succ]
end Go.Proofs.YtmglgjchemecjaaGreat.CInts
/- Lists of objects, and rows of rows of numbers, in memory. -/
namespace Go.Proofs.YtmglgjchemecjaaGreat.BList
set_option maxRecDepth 200000
open Go.ChangeShapes Go.WideShapes Go.ChangeAt Go.RowKit Kit CFixups CSymbols PObj BObj CMarkRows BStore CObjValid
def objC (o : OV) : List Value := [.slice o.A o.ps.length o.c, .slice o.Y o.ys.length o.yc]
theorem objC_len (o : OV) : (objC o).length = 2 := rfl
def RdOs (w : World) (B : Nat) (A : Option Addr) (os : List OV) : Prop := Rd w B A (cellsOf objC os) ∧ ∀ o ∈ os, RdO w B o
/-- A row of numbers as a value. -/
structure RV where
  A : Option Addr
  c : Nat
  zs : List Int
def rowC (p : RV) : List Value := [.slice p.A p.zs.length p.c]
theorem rowC_len (p : RV) : (rowC p).length = 1 := rfl
def RdRs (w : World) (B : Nat) (A : Option Addr) (rs : List RV) : Prop := Rd w B A (cellsOf rowC rs) ∧ ∀ r ∈ rs, Rd w B r.A (ints .i64 r.zs)
def RwR (w : World) (base : Nat) (p : RV) : Prop := Row w base 3 1 p.A p.zs.length p.c (ints .i64 p.zs)
def RwRs (w : World) (base : Nat) (rs : List RV) : Prop := ∀ p ∈ rs, RwR w base p
def PwRs (rs : List RV) : Prop := rs.Pairwise fun p q => Apart p.A p.c q.A q.c
def OwnRs (w : World) (base : Nat) (A : Option Addr) (c : Nat) (rs : List RV) : Prop := Row w base 67 1 A rs.length c (cellsOf rowC rs) ∧ RwRs w base rs ∧ PwRs rs
section
variable {w w' : World} {B B' base : Nat} {A : Option Addr} {c : Nat} {os : List OV} {rs : List RV} {p : RV}
theorem RdOs.below (h : RdOs w B A os) (hb : Below B w w') : RdOs w' B A os := ⟨h.1.below hb, fun o ho => (h.2 o ho).below hb⟩
theorem RdOs.more (h : RdOs w B A os) (hB : B ≤ B') : RdOs w B' A os := ⟨h.1.more hB, fun o ho => (h.2 o ho).more hB⟩
theorem RdRs.below (h : RdRs w B A rs) (hb : Below B w w') : RdRs w' B A rs := ⟨h.1.below hb, fun o ho => (h.2 o ho).below hb⟩
theorem RdRs.more (h : RdRs w B A rs) (hB : B ≤ B') : RdRs w B' A rs := ⟨h.1.more hB, fun o ho => (h.2 o ho).more hB⟩
theorem OwnRs.rd (h : OwnRs w base A c rs) : RdRs w w.heap.size A rs := ⟨h.1.rd, fun p hp => (h.2.1 p hp).rd⟩
end
theorem rows_set (rs : List RV) (k : Nat) (hk : k < rs.length) (q : RV) (hq : rowC q = rowC rs[k]) : cellsOf rowC (rs.set k q) = cellsOf rowC rs := by
  have e : rs = rs.take k ++ rs[k] :: rs.drop (k + 1) := by rw [← List.drop_eq_getElem_cons hk, List.take_append_drop]
  rw [List.set_eq_take_append_cons_drop, if_pos hk]
  conv => rhs; rw [e]
  simp only [cellsOf, List.flatMap_append, List.flatMap_cons, hq]
theorem setInts64 (l : List Int) (j : Nat) (x : Int) : (ints .i64 l).set j (.int .i64 x) = ints .i64 (l.set j x) := by simp [ints, List.map_set]
/-- A number of a row of one's own is put. -/
theorem OwnRs.put {w : World} {base : Nat} {A : Option Addr} {c : Nat} {rs : List RV} (h : OwnRs w base A c rs) {k : Nat} (hk : k < rs.length) {i : Nat} (hi : i < rs[k].zs.length) (v : Int) :
    ∃ g, rs[k].A = some ⟨g, 0, none⟩ ∧ base ≤ g ∧ g < w.heap.size ∧ blk rs[k].A rs[k].c = some g ∧ (∃ cs, Box w g 3 cs) ∧ (w.frozen? ⟨g, i, none⟩ = false) ∧ (∃ u, w.cell? ⟨g, i, none⟩ = some (.int .i64 u)) ∧ OwnRs (w.setCell ⟨g, i, none⟩ (.int .i64 v)) base A c (rs.set k { rs[k] with zs := rs[k].zs.set i v }) := by
  obtain ⟨hrow, hrw, hpw⟩ := h
  have hq := hrw rs[k] (List.getElem_mem hk)
  obtain ⟨g, hA, hb1, hb2, hb, hown⟩ := own_of hq (by omega)
  have hcell := World.ownsRow.cellAt hown i (by simpa using hi)
  refine ⟨g, hA, hb1, hb2, hb, cell_own hown, World.ownsRow.frozenAt hown i, ⟨rs[k].zs[i], ?_⟩, ?_, ?_, ?_⟩
  · rw [hcell]
    simp [ints]
  · rw [rows_set rs k hk _ (by simp [rowC]), List.length_set]
    exact hrow.set (a := ⟨g, i, none⟩) (fun j hj e => apartT hrow hq (by decide) j hj (by rw [hb, e])) _
  · intro p hp
    obtain ⟨j, hj, rfl⟩ := List.getElem_of_mem hp
    rw [List.length_set] at hj
    rw [List.getElem_set]
    by_cases hjk : k = j
    · subst hjk
      rw [if_pos rfl]
      refine .inr ?_
      show (w.setCell _ _).ownsRow base _ 1 (.slice rs[k].A (rs[k].zs.set i v).length rs[k].c) (rs[k].zs.set i v).length (ints .i64 (rs[k].zs.set i v))
      rw [List.length_set, ← setInts64, hA]
      exact (hown.stored i _).1
    · rw [if_neg hjk]
      refine (hrw rs[j] (List.getElem_mem hj)).set (a := ⟨g, i, none⟩) (fun m hm e => ?_) _
      have e' : m = g := e
      rw [PwRs, List.pairwise_iff_getElem] at hpw
      subst e'
      rcases Nat.lt_or_gt_of_ne hjk with hlt | hgt
      · exact hpw k j hk hj hlt _ hb hm
      · exact hpw j k hj hk hgt _ hm hb
  · rw [PwRs, List.pairwise_iff_getElem] at hpw ⊢
    intro a b ha hb hab
    rw [List.length_set] at ha hb
    have key : ∀ m (hm : m < rs.length) (hm' : m < (rs.set k { rs[k] with zs := rs[k].zs.set i v }).length), ((rs.set k { rs[k] with zs := rs[k].zs.set i v })[m]).A = rs[m].A ∧ ((rs.set k { rs[k] with zs := rs[k].zs.set i v })[m]).c = rs[m].c := by
      intro m hm hm'
      rw [List.getElem_set]
      by_cases hkm : k = m
      · subst hkm
        rw [if_pos rfl]
        exact ⟨rfl, rfl⟩
      · rw [if_neg hkm]
        exact ⟨rfl, rfl⟩
    rw [(key a ha _).1, (key a ha _).2, (key b hb _).1, (key b hb _).2]
    exact hpw a b ha hb hab
/-- A row is put behind the last: it is there already, and newer than the others. -/
theorem OwnRs.snoc {w w' : World} {base : Nat} {A : Option Addr} {c : Nat} {rs : List RV} {N : Nat} (h : OwnRs w base A c rs) {q : RV} (hq : RwR w base q) (hold : ∀ p ∈ rs, ∀ k, blk p.A p.c = some k → k < N) (hnew : ∀ k, blk q.A q.c = some k → N ≤ k)
    {A' : Option Addr} {n' c' : Nat} (hn : n' = rs.length + 1) (row : Row w' base 67 1 A' n' c' (cellsOf rowC rs ++ rowC q)) (g : w.grownBy w' (blk A c)) : OwnRs w' base A' c' (rs ++ [q]) := by
  subst hn
  have hS : ∀ p, RwR w base p → RwR w' base p := fun p hp => hp.grown g (fun k hk => apartT hp h.1 (by decide) k hk)
  refine ⟨?_, ?_, ?_⟩
  · rw [List.length_append, show cellsOf rowC (rs ++ [q]) = cellsOf rowC rs ++ rowC q by simp [cellsOf]]
    exact row
  · intro p hp
    rcases List.mem_append.1 hp with hp | hp
    · exact hS p (h.2.1 p hp)
    · have e := List.mem_singleton.1 hp
      subst e
      exact hS _ hq
  · refine List.pairwise_append.2 ⟨h.2.2, List.pairwise_singleton _ _, fun a ha b hb => ?_⟩
    have e := List.mem_singleton.1 hb
    subst e
    intro k hk hk'
    have e1 := hold a ha k hk
    have e2 := hnew k hk'
    omega
theorem OwnRs.keep {w w' : World} {base : Nat} {A : Option Addr} {c : Nat} {rs : List RV} (h : OwnRs w base A c rs) (hk : ∀ k, base ≤ k → k < w.heap.size → (blk A c = some k ∨ ∃ p ∈ rs, blk p.A p.c = some k) → w'.heap[k]? = w.heap[k]?) : OwnRs w' base A c rs :=
  ⟨h.1.keep fun k hb => hk k (h.1.lt k hb).1 (h.1.lt k hb).2 (.inl hb), fun p hp => (h.2.1 p hp).keep fun k hb => hk k ((h.2.1 p hp).lt k hb).1 ((h.2.1 p hp).lt k hb).2 (.inr ⟨p, hp, hb⟩), h.2.2⟩
theorem OwnRs.call {w w' : World} {base : Nat} {A : Option Addr} {c : Nat} {rs : List RV} (h : OwnRs w base A c rs) (hb : Below w.heap.size w w') : OwnRs w' base A c rs := h.keep fun k _ hk _ => hb.block k hk
/-- A cell of a box of another type is put. -/
theorem OwnRs.set {w : World} {base : Nat} {A : Option Addr} {c : Nat} {rs : List RV} (h : OwnRs w base A c rs) {X : Nat} {t : TypeId} {cs : Array Value} (hb : Box w X t cs) (h1 : 67 ≠ t) (h2 : 3 ≠ t) (i : Nat) (u : Value) : OwnRs (w.setCell ⟨X, i, none⟩ u) base A c rs :=
  h.keep fun k _ _ hk => Below.heap_setCell w ⟨X, i, none⟩ u k (by
    rcases hk with hk | ⟨p, hp, hk⟩
    · exact h.1.box hb h1 k hk
    · exact (h.2.1 p hp).box hb h2 k hk)
theorem OwnRs.lt {w : World} {base : Nat} {A : Option Addr} {c : Nat} {rs : List RV} (h : OwnRs w base A c rs) : ∀ p ∈ rs, ∀ k, blk p.A p.c = some k → k < w.heap.size := fun p hp k hk => ((h.2.1 p hp).lt k hk).2
/-- The object at a place of a list: its two cells, and what it holds. -/
theorem RdOs.at {w : World} {B : Nat} {A : Option Addr} {os : List OV} (h : RdOs w B A os) {k : Nat} (hk : k < os.length) :
    ∃ b off, A = some ⟨b, off, none⟩ ∧ b < B ∧ w.cell? ⟨b, off + k * 2, none⟩ = some (.slice os[k].A os[k].ps.length os[k].c) ∧ w.cell? ⟨b, off + k * 2 + 1, none⟩ = some (.slice os[k].Y os[k].ys.length os[k].yc) := by
  obtain ⟨b, off, hA, hb, hc⟩ := h.1.row objC_len (by decide) hk
  exact ⟨b, off, hA, hb, by simpa using hc 0 _ rfl, hc 1 _ rfl⟩
theorem RdRs.at {w : World} {B : Nat} {A : Option Addr} {rs : List RV} (h : RdRs w B A rs) {k : Nat} (hk : k < rs.length) :
    ∃ b off, A = some ⟨b, off, none⟩ ∧ b < B ∧ w.cell? ⟨b, off + k, none⟩ = some (.slice rs[k].A rs[k].zs.length rs[k].c) := by
  obtain ⟨b, off, hA, hb, hc⟩ := h.1.row rowC_len (by decide) hk
  exact ⟨b, off, hA, hb, by simpa using hc 0 _ rfl⟩
/-- Two cells of a block put. -/
theorem two_below {B : Nat} {a w : World} {Y : Nat} (h : Below B a w) (hY : B ≤ Y) (u v : Value) : Below B a ((w.setCell ⟨Y, 0, none⟩ u).setCell ⟨Y, 1, none⟩ v) :=
  (h.setCell (p := ⟨Y, 0, none⟩) hY u).setCell (p := ⟨Y, 1, none⟩) hY v
/-- What the walks ask of a list of objects. -/
structure Fits (os : List OV) : Prop where
  n : os.length ≤ 1048576
  o : ∀ o ∈ os, Fit o
end Go.Proofs.YtmglgjchemecjaaGreat.BList
/- sorted: names by their bytes, each once. -/
namespace Go.Proofs.YtmglgjchemecjaaGreat.CSorted
set_option maxRecDepth 200000
open Go.ChangeShapes Go.WideShapes Go.ChangeAt Go.RowKit Kit CFixups CSymbols PObj BObj CMarkRows BStore
def nmC (xs : List ByteArray) : List Value := xs.map Value.string
def bytesOf (xs : List ByteArray) : List (List UInt8) := xs.map (·.data.toList)
def sortB (xs : List ByteArray) : List (List UInt8) := Lib.compact ((bytesOf xs).mergeSort fun x y => decide (x ≤ y))
def srtN (xs : List ByteArray) : List ByteArray := (sortB xs).map fun l => ⟨l.toArray⟩
theorem enc_strs (ls : List (List UInt8)) : ls.map encStr = nmC (ls.map fun l => ⟨l.toArray⟩) := by
  unfold nmC
  rw [List.map_map]
  rfl
theorem strs_enc (xs : List ByteArray) : nmC xs = (bytesOf xs).map encStr := (Lib.map_encStr xs).symm
theorem srtN_nil : srtN [] = [] := by
  simp [srtN, sortB, bytesOf, Lib.compact, Lib.compactUpTo]
theorem srtN_pos (xs : List ByteArray) : 0 < (srtN xs).length ↔ 0 < xs.length := by
  constructor
  · intro h
    rcases xs with _ | ⟨x, xs⟩
    · rw [srtN_nil] at h
      exact h
    · simp
  · intro h
    have hm : ((bytesOf xs).mergeSort fun x y => decide (x ≤ y)).length = xs.length := by rw [List.length_mergeSort]; simp [bytesOf]
    unfold srtN sortB Lib.compact Lib.compactUpTo
    rw [List.length_map, List.length_map, List.length_pos_iff_exists_mem]
    exact ⟨0, List.mem_filter.2 ⟨List.mem_range.2 (by rw [hm]; exact h), by simpa using Lib.keeps_lt_one _ 0 (by omega)⟩⟩
theorem below_grow (w : World) (os : Array Obj) : Below w.heap.size w (Sort.grow w os) := ⟨rfl, rfl, rfl, by simp, fun _ hk => Sort.heap_grow_old w os hk⟩
/-- A row of names handed back. -/
def RetN (xs : List ByteArray) (w : World) (e : Ending) (w' : World) : Prop := ∃ A c, e = .returned (.slice A xs.length c) ∧ Row w' w.heap.size 9 1 A xs.length c (nmC xs) ∧ Below w.heap.size w w'
theorem of_owns {w : World} {base n : Nat} {v : Value} {xs : List Value} (h : w.ownsRow base 9 1 v n xs) : ∃ A c, v = .slice A n c ∧ Row w base 9 1 A n c xs := by
  rcases h.2 with ⟨rfl, rfl⟩ | ⟨g, cap, cur, rfl, _⟩
  · exact ⟨none, 0, rfl, .inr h⟩
  · exact ⟨_, cap, rfl, .inr h⟩
theorem cloneN_any (xs : List ByteArray) (A : Option Addr) (c : Nat) (base : Nat) (w : World) (h : Row w base 9 1 A xs.length c (nmC xs)) (hm : xs.length ≤ 1048576) :
    Calls Tryz.prog 128 #[.slice A xs.length c] w (RetN xs w) := by
  by_cases h0 : xs.length = 0
  · obtain rfl := List.eq_nil_of_length_eq_zero h0
    cases A with
    | none =>
      refine (XNames.slices_Clone_string_nil 0 c w).mono ?_
      rintro e w' ⟨rfl, rfl⟩
      exact ⟨none, 0, rfl, Row.empty _ _ _ _ _, Below.refl _ _⟩
    | some a =>
      refine (XNames.slices_Clone_string_zero a c w).mono ?_
      rintro e w' ⟨v, rfl, ho, _, hb⟩
      obtain ⟨A', c', rfl, hr⟩ := of_owns ho
      exact ⟨A', c', rfl, hr, hb⟩
  · obtain ⟨g, rfl, _, _, _, hown⟩ := own_of h (by omega)
    refine (XNames.slices_Clone_string g 0 xs.length c xs w (Nat.le_refl _) (by omega) (fun j hj => ?_)).mono ?_
    · have h1 := World.ownsRow.cellAt hown j (by simpa [nmC] using hj)
      rw [Nat.zero_add, h1]
      simp [nmC, List.getD_eq_getElem?_getD, List.getElem?_eq_getElem hj]
    · rintro e w' ⟨v, rfl, ho, _, hb⟩
      rw [List.take_length] at ho
      obtain ⟨A', c', rfl, hr⟩ := of_owns ho
      exact ⟨A', c', rfl, hr, hb⟩
set_option maxHeartbeats 1000000 in
theorem sorted_any (xs : List ByteArray) (A : Option Addr) (c : Nat) (base : Nat) (w : World) (h : Row w base 9 1 A xs.length c (nmC xs)) (hm : xs.length ≤ 1048576) :
    Calls Tryz.prog 71 #[.slice A xs.length c] w (RetN (srtN xs) w) := by
  have HQ := hide (cloneN_any xs A c base w h hm)
  clear h
  go_enter Tryz.func71, Tryz.ntmps71
  go_wp2_with fail
  refine HQ.out.mono ?_
  rintro e w1 ⟨A1, c1, rfl, r1, b1⟩
  have HR := hide r1
  have HB := hide b1
  clear r1 b1 HQ
  go_wp2_with fail
  have HS : Calls Tryz.prog 129 #[.slice A1 xs.length c1] w1 fun e w' => e = .returned (.tuple #[]) ∧ Row w' w.heap.size 9 1 A1 xs.length c1 (((bytesOf xs).mergeSort fun x y => decide (x ≤ y)).map encStr) ∧ Below w.heap.size w w' := by
    by_cases h0 : xs.length = 0
    · obtain rfl := List.eq_nil_of_length_eq_zero h0
      refine (XNames.slices_Sort_string_none A1 c1 w1).mono ?_
      rintro e w' ⟨rfl, rfl⟩
      exact ⟨rfl, by simpa [nmC, bytesOf] using HR.out, HB.out⟩
    · obtain ⟨g, rfl, hb1, hb2, _, hown⟩ := own_of HR.out (by omega)
      rw [strs_enc] at hown
      obtain ⟨g', cap, hv, _, _, _, _, hl, hH⟩ := Lib.holds_of_ownsRow hown (by intro e; cases e)
      injection hv with e1 _ e3
      simp only [Option.some.injEq, Addr.mk.injEq, and_true] at e1
      subst e1 e3
      have hl' : (bytesOf xs).length = xs.length := by simp [bytesOf]
      have hC := XNames.slices_Sort_string g 0 c1 (bytesOf xs) w1 hH hb2 (by rw [hl']; omega)
      rw [hl'] at hC
      refine hC.mono ?_
      rintro e w' ⟨rfl, q, os, rfl⟩
      have hlen : ((bytesOf xs).mergeSort fun x y => decide (x ≤ y)).length = xs.length := by rw [List.length_mergeSort, hl']
      have ho := Lib.ownsRow_putRow (q := q) (k := xs.length) hown hlen (Nat.le_refl _)
      rw [List.take_of_length_le (by omega)] at ho
      exact ⟨rfl, .inr (own_call (below_grow _ os) ho), (Lib.below_putRow HB.out hb1).trans ((below_grow _ os).mono (Lib.below_putRow HB.out hb1).size)⟩
  refine HS.mono ?_
  rintro e w2 ⟨rfl, r2, b2⟩
  have HR2 := hide r2
  have HB2 := hide b2
  clear r2 b2 HS HR HB
  go_wp2_with fail
  have HC : Calls Tryz.prog 130 #[.slice A1 xs.length c1] w2 fun e w' => ∃ c', e = .returned (.slice A1 (srtN xs).length c') ∧ Row w' w.heap.size 9 1 A1 (srtN xs).length c' (nmC (srtN xs)) ∧ Below w.heap.size w w' := by
    have hlen : ((bytesOf xs).mergeSort fun x y => decide (x ≤ y)).length = xs.length := by rw [List.length_mergeSort]; simp [bytesOf]
    by_cases h0 : xs.length = 0
    · obtain rfl := List.eq_nil_of_length_eq_zero h0
      refine (XNames.slices_Compact_string_empty A1 c1 w2).mono ?_
      rintro e w' ⟨rfl, rfl⟩
      rw [srtN_nil]
      exact ⟨c1, rfl, by simpa [nmC, bytesOf] using HR2.out, HB2.out⟩
    · obtain ⟨g, rfl, hb1, hb2, _, hown⟩ := own_of HR2.out (by omega)
      have hcap := HR2.out.cap.1
      generalize hM : ((bytesOf xs).mergeSort fun x y => decide (x ≤ y)) = M at *
      have hsr : srtN xs = (Lib.compact M).map fun l => ⟨l.toArray⟩ := by unfold srtN sortB; rw [hM]
      obtain ⟨g', cap, hv, _, _, _, _, hl, hH⟩ := Lib.holds_of_ownsRow hown (by intro e; cases e)
      injection hv with e1 _ e3
      simp only [Option.some.injEq, Addr.mk.injEq, and_true] at e1
      subst e1 e3
      have hle := Lib.compact_length_le M
      have hC := XNames.slices_Compact_string g 0 c1 M w2 hH (by omega) (by omega)
      rw [hlen] at hC
      refine hC.mono ?_
      rintro e w' ⟨rfl, q, rfl⟩
      have ho := Lib.ownsRow_putRow (q := q) (k := (Lib.compact M).length) (ys := Lib.compact M ++ List.replicate (xs.length - (Lib.compact M).length) []) hown (by simp; omega) (by omega)
      rw [List.take_left] at ho
      refine ⟨c1, by rw [hsr, List.length_map], ?_, Lib.below_putRow HB2.out hb1⟩
      rw [hsr, ← enc_strs, List.length_map]
      exact .inr ho
  refine HC.mono ?_
  rintro e w3 ⟨c3, rfl, r3, b3⟩
  have HB3 := hide b3
  have hl : (srtN xs).length ≤ 1048576 := by
    have h1 := Lib.compact_length_le ((bytesOf xs).mergeSort fun x y => decide (x ≤ y))
    rw [List.length_mergeSort] at h1
    have h2 : (bytesOf xs).length = xs.length := by simp [bytesOf]
    have h3 : (srtN xs).length = (sortB xs).length := by simp [srtN]
    unfold sortB at h3
    omega
  have HQ := hide (cloneN_any (srtN xs) A1 c3 _ w3 r3 hl)
  clear r3 b3 HC HR2 HB2 hl
  generalize srtN xs = ys at *
  go_wp2_with fail
  refine HQ.out.mono ?_
  rintro e w4 ⟨A4, c4, rfl, r4, b4⟩
  have HF := hide (And.intro (r4.down HB3.out.size) (HB3.out.trans (b4.mono HB3.out.size)))
  clear r4 b4 HQ
  go_wp2_with fail
  go_ret
  exact ⟨A4, c4, rfl, HF.out.1, HF.out.2⟩
end Go.Proofs.YtmglgjchemecjaaGreat.CSorted
/- Whether a fixup uses a symbol: the program's uses. -/
namespace Go.Proofs.YtmglgjchemecjaaGreat.CUses
set_option maxRecDepth 200000
open Go.ChangeShapes Go.WideShapes Go.ChangeAt Go.RowKit Kit CFixups CSymbols PObj BObj
def useF (j : Int) (f : FD) : Bool := f.2.2.1 == j
def useS (j : Int) (fs : List FD) : Bool := fs.any (useF j)
def used (ss : List SD) (j : Int) : Bool := ss.any fun d => useS j d.fs
end Go.Proofs.YtmglgjchemecjaaGreat.CUses
/- Contracts of the laws' helpers on Warning: the copy, the comparison of equal data, the marks. Written by a program. -/
namespace Go.Proofs.YtmglgjchemecjaaGreat.CWarnings
set_option maxRecDepth 200000
open Go.ChangeShapes Go.WideShapes Go.ChangeAt Go.RowKit Kit
abbrev D := Int × Int
def warningC (r : D) : List Value := [.int .i64 r.1, .int .i64 r.2]
theorem warningC_len (r : D) : (warningC r).length = 2 := rfl
def marks (k0 : Int) (m : Nat) : List D := (List.range m).map fun (i : Nat) => (k0 + 2 * (i : Int), k0 + 2 * (i : Int) + 1)
theorem marks_len (k0 : Int) (m : Nat) : (marks k0 m).length = m := by simp [marks]
theorem marks_at (k0 : Int) (m i : Nat) (h : i < m) : (marks k0 m)[i]'(by rw [marks_len]; exact h) = (k0 + 2 * (i : Int), k0 + 2 * (i : Int) + 1) := by simp [marks]
theorem marks_succ (k0 : Int) (i : Nat) : marks k0 (i + 1) = marks k0 i ++ [(k0 + 2 * (i : Int), k0 + 2 * (i : Int) + 1)] := by simp [marks, List.range_succ]
end Go.Proofs.YtmglgjchemecjaaGreat.CWarnings
/- The reference's l9Used; the program's covers. -/
namespace Go.Proofs.YtmglgjchemecjaaGreat.CCovers
set_option maxRecDepth 200000
open Go.ChangeShapes Go.WideShapes Go.ChangeAt Go.RowKit Kit CCode CFixups CSymbols PObj BObj PValid CSecValid CUses
/-- Whether a fixup fills a byte that is not 0. -/
def fills (zs : List Int) (f : FD) : List Int := (zs.drop f.1.toNat).take (wide f.2.1).toNat
def coverF (zs : List Int) (f : FD) : Bool := (fills zs f).any fun x => x != 0
def coverB (d : SD) : Bool := d.fs.any (coverF d.zs)
/-- All fixups lie in the bytes. -/
def InB (zs : List Int) (fs : List FD) : Prop := ∀ f ∈ fs, 0 ≤ f.1 ∧ f.1 + wide f.2.1 ≤ zs.length
end Go.Proofs.YtmglgjchemecjaaGreat.CCovers
/- The reference's ObjectValid. -/
namespace Go.Proofs.YtmglgjchemecjaaGreat.CObjValidS
set_option maxRecDepth 200000
open Go.ChangeShapes Go.WideShapes Go.ChangeAt Go.RowKit Kit CCode CName CFixups CSymbols PObj BObj PValid CSecValid CSecValid2 CSecValid3 CSymValid CGlobalOf CObjValid
theorem obj_sizes {d : OD} (h3 : ∀ p ∈ d.ss, secOk d.ys.length p = true) (h4 : ∀ k, (h : k < d.ys.length) → symAt d.ss d.ys k d.ys[k] = true) : objOk d = (decide (d.ss.length ≤ 8) && decide (d.ys.length ≤ 12)) := by
  by_cases h1 : d.ss.length ≤ 8
  · by_cases h2 : d.ys.length ≤ 12
    · rw [obj_yes h1 h2 h3 h4, decide_eq_true h1, decide_eq_true h2]
      rfl
    · rw [obj_big (.inr (by omega)), decide_eq_false h2, Bool.and_false]
  · rw [obj_big (.inl (by omega)), decide_eq_false h1, Bool.false_and]
set_option maxHeartbeats 4000000 in
theorem objectValidS_any (o : OV) (w : World) (hr : RdO w w.heap.size o) (hf : Fit o) :
    Calls Tryz.prog 15 #[.agg #[.slice o.A o.ps.length o.c, .slice o.Y o.ys.length o.yc]] w (Ret (.bool (objOk o.d)) w) := by
  obtain ⟨A, c, ps, Y, yc, ys⟩ := o
  obtain ⟨np, ny, cy, hp, hy⟩ := hf
  simp only [OV.d] at np ny cy hp hy ⊢
  have HR := hide hr
  have HL := hide (And.intro hp hy)
  clear hr hp hy
  have B0 : Below w.heap.size w (w.alloc (.cells #[.slice A ps.length c, .slice Y ys.length yc] 31)) := (by repeat (first | exact Below.refl _ _ | with_reducible assumption | (refine Below.drew ?_) | (refine Below.drewN ?_ _) | (refine Below.alloc ?_ (by simp; try omega) _) | (refine Below.setCell ?_ (by simp; try omega) _)))
  have X0 := Box.new w 31 #[.slice A ps.length c, .slice Y ys.length yc]
  have HB := hide B0
  clear B0
  go_enter Tryz.func15, Tryz.ntmps15
  go_wp2_with fail
  generalize w.alloc (.cells #[.slice A ps.length c, .slice Y ys.length yc] 31) = w0 at *
  go_loopw [3] (fun i wi => ∃ k : Nat, k ≤ ps.length ∧ i = .int .i64 k ∧ (∀ p ∈ ps.take k, secOk ys.length p.d = true) ∧ Box wi w.heap.size 31 #[.slice A ps.length c, .slice Y ys.length yc] ∧ Below w.heap.size w wi) (fun i _ => ps.length - (intOf i).toNat)
  case atStart => exact ⟨0, Nat.zero_le _, rfl, fun p hp => by simp at hp, X0, HB.out⟩
  case round =>
    obtain ⟨k, hk, rfl, hok, hx, hb⟩ := hrel
    have HO := hide hok
    have HX := hide hx
    have HBI := hide hb
    clear X0 HB
    have x0 := hx.cell 0
    have x1 := hx.cell 1
    simp only [List.getElem?_toArray, List.getElem?_cons_zero, List.getElem?_cons_succ] at x0 x1
    have hxl := hx.lt
    by_cases hlt : k < ps.length
    · obtain ⟨b, off, hA, hbg, hc⟩ := (HR.out.1.1.below hb).row secC_len (by decide) hlt
      subst hA
      have hbw : b < wr.heap.size := Nat.lt_of_lt_of_le hbg hb.size
      have hc0 := hc 0 _ rfl
      have hc1 := hc 1 _ rfl
      have hc2 := hc 2 _ rfl
      have hc3 := hc 3 _ rfl
      have hc4 := hc 4 _ rfl
      have hc5 := hc 5 _ rfl
      simp only [Nat.add_zero] at hc0
      have HM := hide (HL.out.1 _ (List.getElem_mem hlt))
      have HRS := hide (HR.out.1.2 _ (List.getElem_mem hlt))
      have HS := hide (fun (h : secOk ys.length ps[k].d = true) => (show ∀ p ∈ ps.take (k + 1), secOk ys.length p.d = true from fun p hp => by
        rw [take_succ hlt] at hp
        rcases List.mem_append.1 hp with hp | hp
        · exact HO.out p hp
        · rw [List.mem_singleton.1 hp]; exact h))
      have HF := hide (fun (h : secOk ys.length ps[k].d = false) => obj_sec (d := ⟨ps.map SV.d, ys⟩) (List.mem_map_of_mem (List.getElem_mem hlt)) h)
      clear hok hx hb hc HO
      generalize ps[k] = p at *
      go_wp2_with fail
      have HSS : Hid (∀ V : World, Below wr.heap.size wr V → (V.cell? ⟨w.heap.size, 0, none⟩ = some (.slice (some ⟨b, off, none⟩) ps.length c) ∧ V.cell? ⟨w.heap.size, 1, none⟩ = some (.slice Y ys.length yc) ∧ V.cell? ⟨b, off + k * 6, none⟩ = some (.string p.nm) ∧ V.cell? ⟨b, off + k * 6 + 1, none⟩ = some (.int .i64 p.kd) ∧ V.cell? ⟨b, off + k * 6 + 2, none⟩ = some (.int .i64 p.al) ∧ V.cell? ⟨b, off + k * 6 + 3, none⟩ = some (.slice p.A p.zs.length p.c) ∧ V.cell? ⟨b, off + k * 6 + 4, none⟩ = some (.int .i64 p.sz) ∧ V.cell? ⟨b, off + k * 6 + 5, none⟩ = some (.slice p.F p.fs.length p.fc))) := hide (fun V hV => ⟨(hV.cell (p := ⟨w.heap.size, 0, none⟩) hxl).trans x0, (hV.cell (p := ⟨w.heap.size, 1, none⟩) hxl).trans x1, (hV.cell (p := ⟨b, off + k * 6, none⟩) hbw).trans hc0, (hV.cell (p := ⟨b, off + k * 6 + 1, none⟩) hbw).trans hc1, (hV.cell (p := ⟨b, off + k * 6 + 2, none⟩) hbw).trans hc2, (hV.cell (p := ⟨b, off + k * 6 + 3, none⟩) hbw).trans hc3, (hV.cell (p := ⟨b, off + k * 6 + 4, none⟩) hbw).trans hc4, (hV.cell (p := ⟨b, off + k * 6 + 5, none⟩) hbw).trans hc5⟩)
      clear hc0 hc1 hc2 hc3 hc4 hc5 x0 x1
      refine Reg.startT (fun V => V.cell? ⟨w.heap.size, 0, none⟩ = some (.slice (some ⟨b, off, none⟩) ps.length c) ∧ V.cell? ⟨w.heap.size, 1, none⟩ = some (.slice Y ys.length yc) ∧ V.cell? ⟨b, off + k * 6, none⟩ = some (.string p.nm) ∧ V.cell? ⟨b, off + k * 6 + 1, none⟩ = some (.int .i64 p.kd) ∧ V.cell? ⟨b, off + k * 6 + 2, none⟩ = some (.int .i64 p.al) ∧ V.cell? ⟨b, off + k * 6 + 3, none⟩ = some (.slice p.A p.zs.length p.c) ∧ V.cell? ⟨b, off + k * 6 + 4, none⟩ = some (.int .i64 p.sz) ∧ V.cell? ⟨b, off + k * 6 + 5, none⟩ = some (.slice p.F p.fs.length p.fc)) (fun _ => false) (by kernel_rfl) ?_
      have hHeld := HSS.out wr.drew (Below.drew (Below.refl _ _))
      refine Reg.takeT (i := 0) (v := ?_) rfl (by kernel_rfl) (by kernel_rfl) (by kernel_rfl) (by kernel_rfl) (fun _ _ _ h => h) (Or.inl ⟨by rfl, ?_⟩) (by assumption) ?_
      rotate_left 1
      focus (intro w hSw; (try dsimp only at hSw); go_simp; (try with_reducible rfl))
      try simp only [List.getElem_toArray, List.getElem_cons_succ, List.getElem_cons_zero, Act.put, List.setIfInBounds_toArray, List.set_cons_zero, List.set_cons_succ]
      refine Reg.takeT (i := 1) (v := ?_) rfl (by kernel_rfl) (by kernel_rfl) (by kernel_rfl) (by kernel_rfl) (fun _ _ _ h => h) (Or.inl ⟨by rfl, ?_⟩) (by assumption) ?_
      rotate_left 1
      focus (intro w hSw; (try dsimp only at hSw); go_simp; (try with_reducible rfl))
      try simp only [List.getElem_toArray, List.getElem_cons_succ, List.getElem_cons_zero, Act.put, List.setIfInBounds_toArray, List.set_cons_zero, List.set_cons_succ]
      refine Reg.takeT (i := 2) (v := ?_) rfl (by kernel_rfl) (by kernel_rfl) (by kernel_rfl) (by kernel_rfl) (fun _ _ _ h => h) (Or.inl ⟨by rfl, ?_⟩) (by assumption) ?_
      rotate_left 1
      focus (intro w hSw; (try dsimp only at hSw); go_simp; (try with_reducible rfl))
      try simp only [List.getElem_toArray, List.getElem_cons_succ, List.getElem_cons_zero, Act.put, List.setIfInBounds_toArray, List.set_cons_zero, List.set_cons_succ]
      refine Reg.takeT (i := 3) (v := ?_) rfl (by kernel_rfl) (by kernel_rfl) (by kernel_rfl) (by kernel_rfl) (fun _ _ _ h => h) (Or.inl ⟨by rfl, ?_⟩) (by assumption) ?_
      rotate_left 1
      focus (intro w hSw; (try dsimp only at hSw); go_simp; (try with_reducible rfl))
      try simp only [List.getElem_toArray, List.getElem_cons_succ, List.getElem_cons_zero, Act.put, List.setIfInBounds_toArray, List.set_cons_zero, List.set_cons_succ]
      refine Reg.takeT (i := 4) (v := ?_) rfl (by kernel_rfl) (by kernel_rfl) (by kernel_rfl) (by kernel_rfl) (fun _ _ _ h => h) (Or.inl ⟨by rfl, ?_⟩) (by assumption) ?_
      rotate_left 1
      focus (intro w hSw; (try dsimp only at hSw); go_simp; (try with_reducible rfl))
      try simp only [List.getElem_toArray, List.getElem_cons_succ, List.getElem_cons_zero, Act.put, List.setIfInBounds_toArray, List.set_cons_zero, List.set_cons_succ]
      refine Reg.takeT (i := 5) (v := ?_) rfl (by kernel_rfl) (by kernel_rfl) (by kernel_rfl) (by kernel_rfl) (fun _ _ _ h => h) (Or.inl ⟨by rfl, ?_⟩) (by assumption) ?_
      rotate_left 1
      focus (intro w hSw; (try dsimp only at hSw); go_simp; (try with_reducible rfl))
      try simp only [List.getElem_toArray, List.getElem_cons_succ, List.getElem_cons_zero, Act.put, List.setIfInBounds_toArray, List.set_cons_zero, List.set_cons_succ]
      refine Reg.takeT (i := 6) (v := ?_) rfl (by kernel_rfl) (by kernel_rfl) (by kernel_rfl) (by kernel_rfl) (fun _ _ _ h => h) (Or.inl ⟨by rfl, ?_⟩) (by assumption) ?_
      rotate_left 1
      focus (intro w hSw; (try dsimp only at hSw); go_simp; (try with_reducible rfl))
      try simp only [List.getElem_toArray, List.getElem_cons_succ, List.getElem_cons_zero, Act.put, List.setIfInBounds_toArray, List.set_cons_zero, List.set_cons_succ]
      refine Reg.takeT (i := 7) (v := ?_) rfl (by kernel_rfl) (by kernel_rfl) (by kernel_rfl) (by kernel_rfl) (fun _ _ _ h => h) (Or.inl ⟨by rfl, ?_⟩) (by assumption) ?_
      rotate_left 1
      focus (intro w hSw; (try dsimp only at hSw); go_simp; (try with_reducible rfl))
      try simp only [List.getElem_toArray, List.getElem_cons_succ, List.getElem_cons_zero, Act.put, List.setIfInBounds_toArray, List.set_cons_zero, List.set_cons_succ]
      refine Reg.oneT (i := 8) rfl (by kernel_rfl) (fun K hK => ?_)
      go_simp
      refine (sectionValidS_any p ys.length _ ((HRS.out.below (Below.drew HBI.out)).more (Below.drew HBI.out).size) HM.out.1 HM.out.2.1 HM.out.2.2).mono ?_
      rintro e w2 ⟨rfl, b2⟩
      have b2' := of_drew b2
      have hHeld := HSS.out w2 b2'
      refine hK.out _ _ hHeld ?_
      clear hK K
      try simp only [List.getElem_toArray, List.getElem_cons_succ, List.getElem_cons_zero, Act.put, List.setIfInBounds_toArray, List.set_cons_zero, List.set_cons_succ]
      have HX2 := hide (HX.out.call b2')
      have HB2 := hide (HBI.out.trans (b2'.mono HBI.out.size))
      clear b2 b2' HX HBI HSS
      cases hs : secOk ys.length p.d
      · have HV := hide (HF.out hs)
        clear HF HS hs
        refine Reg.takeT (i := 9) (v := ?_) rfl (by kernel_rfl) (by kernel_rfl) (by kernel_rfl) (by kernel_rfl) (fun _ _ _ h => h) (Or.inl ⟨by rfl, ?_⟩) (by assumption) ?_
        rotate_left 1
        focus (intro w hSw; (try dsimp only at hSw); go_simp; (try with_reducible rfl))
        try simp only [List.getElem_toArray, List.getElem_cons_succ, List.getElem_cons_zero, Act.put, List.setIfInBounds_toArray, List.set_cons_zero, List.set_cons_succ]
        refine Reg.doneT (by kernel_rfl) ?_ _
        clear hHeld
        go_wp2_with fail
        go_ret
        exact ⟨by rw [HV.out]; rfl, HB2.out⟩
      · have HS' := hide (HS.out hs)
        clear HF HS hs
        refine Reg.takeT (i := 9) (v := ?_) rfl (by kernel_rfl) (by kernel_rfl) (by kernel_rfl) (by kernel_rfl) (fun _ _ _ h => h) (Or.inl ⟨by rfl, ?_⟩) (by assumption) ?_
        rotate_left 1
        focus (intro w hSw; (try dsimp only at hSw); go_simp; (try with_reducible rfl))
        try simp only [List.getElem_toArray, List.getElem_cons_succ, List.getElem_cons_zero, Act.put, List.setIfInBounds_toArray, List.set_cons_zero, List.set_cons_succ]
        refine Reg.doneT (by kernel_rfl) ?_ _
        clear hHeld
        go_wp2_with fail
        refine ⟨⟨k + 1, by omega, by go_num, HS'.out, HX2.out, HB2.out⟩, by simp [intOf]; omega⟩
    · have HALL := hide (show ∀ p ∈ ps.map SV.d, secOk ys.length p = true from fun p hp => by
        obtain ⟨q, hq, rfl⟩ := List.mem_map.1 hp
        exact HO.out q (by rw [List.take_of_length_le (by omega)]; exact hq))
      clear HO hok hx hb
      go_wp2_with fail
      clear x0 x1
      go_loopw [4] (fun i wi => ∃ k : Nat, k ≤ ys.length ∧ i = .int .i64 k ∧ (∀ j, (h : j < ys.length) → j < k → symAt (ps.map SV.d) ys j ys[j] = true) ∧ Box wi w.heap.size 31 #[.slice A ps.length c, .slice Y ys.length yc] ∧ Below w.heap.size w wi) (fun i _ => ys.length - (intOf i).toNat)
      case atStart => exact ⟨0, Nat.zero_le _, rfl, fun j _ hj => absurd hj (Nat.not_lt_zero j), HX.out, HBI.out⟩
      case round =>
        obtain ⟨k, hk, rfl, hok, hx, hb⟩ := hrel
        clear HX HBI hxl
        have HO := hide hok
        have HX := hide hx
        have HBI := hide hb
        have x0 := hx.cell 0
        have x1 := hx.cell 1
        simp only [List.getElem?_toArray, List.getElem?_cons_zero, List.getElem?_cons_succ] at x0 x1
        have hxl := hx.lt
        by_cases hlt : k < ys.length
        · obtain ⟨b, off, hY, hbg, hc⟩ := (HR.out.2.below hb).row symbolC_len (by decide) hlt
          have hbw : b < wr.heap.size := Nat.lt_of_lt_of_le hbg hb.size
          have hc0 := hc 0 _ rfl
          have hc1 := hc 1 _ rfl
          have hc2 := hc 2 _ rfl
          have hc3 := hc 3 _ rfl
          simp only [Nat.add_zero] at hc0
          have HM := hide (HL.out.2 _ (List.getElem_mem hlt))
          have HS := hide (fun (h : symAt (ps.map SV.d) ys k ys[k] = true) => (show ∀ j, (h : j < ys.length) → j < k + 1 → symAt (ps.map SV.d) ys j ys[j] = true from fun j hj hjk => by
            rcases Nat.lt_or_ge j k with h' | h'
            · exact HO.out j hj h'
            · obtain rfl : j = k := by omega
              exact h))
          have HF := hide (fun (h : symAt (ps.map SV.d) ys k ys[k] = false) => obj_sym (d := ⟨ps.map SV.d, ys⟩) hlt h)
          clear hok hx hb hc HO
          unfold symAt at HS HF
          generalize ys[k] = z at *
          obtain ⟨zn, zb, zw, zv⟩ := z
          simp only at HM hc0 hc1 hc2 hc3 HS HF
          subst hY
          go_wp2_with fail
          have HSS : Hid (∀ V : World, Below wr.heap.size wr V → (V.cell? ⟨w.heap.size, 0, none⟩ = some (.slice A ps.length c) ∧ V.cell? ⟨w.heap.size, 1, none⟩ = some (.slice (some ⟨b, off, none⟩) ys.length yc) ∧ V.cell? ⟨b, off + k * 4, none⟩ = some (.string zn) ∧ V.cell? ⟨b, off + k * 4 + 1, none⟩ = some (.int .i64 zb) ∧ V.cell? ⟨b, off + k * 4 + 2, none⟩ = some (.int .i64 zw) ∧ V.cell? ⟨b, off + k * 4 + 3, none⟩ = some (.int .i64 zv))) := hide (fun V hV => ⟨(hV.cell (p := ⟨w.heap.size, 0, none⟩) hxl).trans x0, (hV.cell (p := ⟨w.heap.size, 1, none⟩) hxl).trans x1, (hV.cell (p := ⟨b, off + k * 4, none⟩) hbw).trans hc0, (hV.cell (p := ⟨b, off + k * 4 + 1, none⟩) hbw).trans hc1, (hV.cell (p := ⟨b, off + k * 4 + 2, none⟩) hbw).trans hc2, (hV.cell (p := ⟨b, off + k * 4 + 3, none⟩) hbw).trans hc3⟩)
          clear hc0 hc1 hc2 hc3 x0 x1
          refine Reg.startT (fun V => V.cell? ⟨w.heap.size, 0, none⟩ = some (.slice A ps.length c) ∧ V.cell? ⟨w.heap.size, 1, none⟩ = some (.slice (some ⟨b, off, none⟩) ys.length yc) ∧ V.cell? ⟨b, off + k * 4, none⟩ = some (.string zn) ∧ V.cell? ⟨b, off + k * 4 + 1, none⟩ = some (.int .i64 zb) ∧ V.cell? ⟨b, off + k * 4 + 2, none⟩ = some (.int .i64 zw) ∧ V.cell? ⟨b, off + k * 4 + 3, none⟩ = some (.int .i64 zv)) (fun _ => false) (by kernel_rfl) ?_
          have hHeld := HSS.out wr.drew (Below.drew (Below.refl _ _))
          refine Reg.takeT (i := 0) (v := ?_) rfl (by kernel_rfl) (by kernel_rfl) (by kernel_rfl) (by kernel_rfl) (fun _ _ _ h => h) (Or.inl ⟨by rfl, ?_⟩) (by assumption) ?_
          rotate_left 1
          focus (intro w hSw; (try dsimp only at hSw); go_simp; (try with_reducible rfl))
          try simp only [List.getElem_toArray, List.getElem_cons_succ, List.getElem_cons_zero, Act.put, List.setIfInBounds_toArray, List.set_cons_zero, List.set_cons_succ]
          refine Reg.takeT (i := 1) (v := ?_) rfl (by kernel_rfl) (by kernel_rfl) (by kernel_rfl) (by kernel_rfl) (fun _ _ _ h => h) (Or.inl ⟨by rfl, ?_⟩) (by assumption) ?_
          rotate_left 1
          focus (intro w hSw; (try dsimp only at hSw); go_simp; (try with_reducible rfl))
          try simp only [List.getElem_toArray, List.getElem_cons_succ, List.getElem_cons_zero, Act.put, List.setIfInBounds_toArray, List.set_cons_zero, List.set_cons_succ]
          refine Reg.takeT (i := 2) (v := ?_) rfl (by kernel_rfl) (by kernel_rfl) (by kernel_rfl) (by kernel_rfl) (fun _ _ _ h => h) (Or.inl ⟨by rfl, ?_⟩) (by assumption) ?_
          rotate_left 1
          focus (intro w hSw; (try dsimp only at hSw); go_simp; (try with_reducible rfl))
          try simp only [List.getElem_toArray, List.getElem_cons_succ, List.getElem_cons_zero, Act.put, List.setIfInBounds_toArray, List.set_cons_zero, List.set_cons_succ]
          refine Reg.takeT (i := 3) (v := ?_) rfl (by kernel_rfl) (by kernel_rfl) (by kernel_rfl) (by kernel_rfl) (fun _ _ _ h => h) (Or.inl ⟨by rfl, ?_⟩) (by assumption) ?_
          rotate_left 1
          focus (intro w hSw; (try dsimp only at hSw); go_simp; (try with_reducible rfl))
          try simp only [List.getElem_toArray, List.getElem_cons_succ, List.getElem_cons_zero, Act.put, List.setIfInBounds_toArray, List.set_cons_zero, List.set_cons_succ]
          refine Reg.takeT (i := 4) (v := ?_) rfl (by kernel_rfl) (by kernel_rfl) (by kernel_rfl) (by kernel_rfl) (fun _ _ _ h => h) (Or.inl ⟨by rfl, ?_⟩) (by assumption) ?_
          rotate_left 1
          focus (intro w hSw; (try dsimp only at hSw); go_simp; (try with_reducible rfl))
          try simp only [List.getElem_toArray, List.getElem_cons_succ, List.getElem_cons_zero, Act.put, List.setIfInBounds_toArray, List.set_cons_zero, List.set_cons_succ]
          refine Reg.takeT (i := 5) (v := ?_) rfl (by kernel_rfl) (by kernel_rfl) (by kernel_rfl) (by kernel_rfl) (fun _ _ _ h => h) (Or.inl ⟨by rfl, ?_⟩) (by assumption) ?_
          rotate_left 1
          focus (intro w hSw; (try dsimp only at hSw); go_simp; (try with_reducible rfl))
          try simp only [List.getElem_toArray, List.getElem_cons_succ, List.getElem_cons_zero, Act.put, List.setIfInBounds_toArray, List.set_cons_zero, List.set_cons_succ]
          refine Reg.takeT (i := 6) (v := ?_) rfl (by kernel_rfl) (by kernel_rfl) (by kernel_rfl) (by kernel_rfl) (fun _ _ _ h => h) (Or.inl ⟨by rfl, ?_⟩) (by assumption) ?_
          rotate_left 1
          focus (intro w hSw; (try dsimp only at hSw); go_simp; (try with_reducible rfl))
          try simp only [List.getElem_toArray, List.getElem_cons_succ, List.getElem_cons_zero, Act.put, List.setIfInBounds_toArray, List.set_cons_zero, List.set_cons_succ]
          refine Reg.oneT (i := 7) rfl (by kernel_rfl) (fun K hK => ?_)
          go_simp
          refine (symbolValidS_any (zn, zb, zw, zv) A ps c _ ((HR.out.1.1.below (Below.drew HBI.out)).more (Below.drew HBI.out).size) np HM.out (fun p hp => Nat.le_trans (HL.out.1 p hp).2.1 (by decide))).mono ?_
          rintro e w3 ⟨rfl, b3⟩
          have b3' := of_drew b3
          have hHeld := HSS.out w3 b3'
          refine hK.out _ _ hHeld ?_
          clear hK K
          try simp only [List.getElem_toArray, List.getElem_cons_succ, List.getElem_cons_zero, Act.put, List.setIfInBounds_toArray, List.set_cons_zero, List.set_cons_succ]
          have HX3 := hide (HX.out.call b3')
          have HB3 := hide (HBI.out.trans (b3'.mono HBI.out.size))
          clear b3 b3' HX HBI HSS
          cases hs : symOk (ps.map SV.d) (zn, zb, zw, zv)
          · have HV := hide (HF.out (by rw [hs]; rfl))
            clear HF HS hs
            refine Reg.takeT (i := 8) (v := ?_) rfl (by kernel_rfl) (by kernel_rfl) (by kernel_rfl) (by kernel_rfl) (fun _ _ _ h => h) (Or.inl ⟨by rfl, ?_⟩) (by assumption) ?_
            rotate_left 1
            focus (intro w hSw; (try dsimp only at hSw); go_simp; (try with_reducible rfl))
            try simp only [List.getElem_toArray, List.getElem_cons_succ, List.getElem_cons_zero, Act.put, List.setIfInBounds_toArray, List.set_cons_zero, List.set_cons_succ]
            refine Reg.doneT (by kernel_rfl) ?_ _
            clear hHeld
            go_wp2_with fail
            go_ret
            exact ⟨by rw [HV.out]; rfl, HB3.out⟩
          rw [hs] at HS HF
          clear hs
          refine Reg.takeT (i := 8) (v := ?_) rfl (by kernel_rfl) (by kernel_rfl) (by kernel_rfl) (by kernel_rfl) (fun _ _ _ h => h) (Or.inl ⟨by rfl, ?_⟩) (by assumption) ?_
          rotate_left 1
          focus (intro w hSw; (try dsimp only at hSw); go_simp; (try with_reducible rfl))
          try simp only [List.getElem_toArray, List.getElem_cons_succ, List.getElem_cons_zero, Act.put, List.setIfInBounds_toArray, List.set_cons_zero, List.set_cons_succ]
          refine Reg.doneT (by kernel_rfl) ?_ _
          obtain ⟨_, _, z0, z1, z2, z3⟩ := hHeld
          have HZ := hide (And.intro z0 z1)
          have hb3 : b < w3.heap.size := World.block_lt_of_cell? _ _ z0
          clear z0 z1 z2 z3
          go_wp2_with fail
          go_loopw [5] (fun jj wi => ∃ j : Nat, j ≤ k ∧ jj = .int .i64 j ∧ (!decide (zb = 0) && (ys.take j).any (hit zn)) = false ∧ wi.cell? ⟨b, off + k * 4, none⟩ = some (.string zn) ∧ wi.cell? ⟨b, off + k * 4 + 1, none⟩ = some (.int .i64 zb) ∧ Box wi w.heap.size 31 #[.slice A ps.length c, .slice (some ⟨b, off, none⟩) ys.length yc] ∧ Below w.heap.size w wi) (fun jj _ => k - (intOf jj).toNat)
          case atStart => exact ⟨0, Nat.zero_le _, rfl, by simp, HZ.out.1, HZ.out.2, HX3.out, HB3.out⟩
          case round =>
            clear HX3 HB3 HZ hb3 hxl hbw
            obtain ⟨j, hj, rfl, hno, z0, z1, hx, hb⟩ := hrel
            have HX := hide hx
            have HBI := hide hb
            have x0 := hx.cell 0
            have x1 := hx.cell 1
            simp only [List.getElem?_toArray, List.getElem?_cons_zero, List.getElem?_cons_succ] at x0 x1
            have hxl := hx.lt
            by_cases hjk : j < k
            · have hjy : j < ys.length := by omega
              obtain ⟨b', off', hY', hbg', hc⟩ := (HR.out.2.below hb).row symbolC_len (by decide) hjy
              simp only [Option.some.injEq, Addr.mk.injEq, and_true] at hY'
              obtain ⟨rfl, rfl⟩ := hY'
              have hc0 := hc 0 _ rfl
              have hc1 := hc 1 _ rfl
              simp only [Nat.add_zero] at hc0
              have HT := hide (show (!decide (zb = 0) && (ys.take (j + 1)).any (hit zn)) = (!decide (zb = 0) && hit zn ys[j]) by
                rw [take_succ hjy, List.any_append]
                cases hzz : (!decide (zb = 0))
                · rfl
                · rw [hzz, Bool.true_and] at hno
                  rw [hno]
                  simp)
              have HA := hide (show (!decide (zb = 0) && hit zn ys[j]) = true → (!decide (zb = 0) && (ys.take k).any (hit zn)) = true from fun h => by
                rw [Bool.and_eq_true] at h ⊢
                exact ⟨h.1, List.any_eq_true.2 ⟨ys[j], by
                  rw [List.mem_take_iff_getElem]
                  exact ⟨j, by omega, rfl⟩, h.2⟩⟩)
              clear hno hx hb hc
              generalize ys[j] = x at *
              obtain ⟨xn, xb, xw, xv⟩ := x
              simp only [hit] at hc0 hc1 HT HA
              by_cases h1 : xn = zn
              · have e1 : (xn.toList == zn.toList) = true := by rw [str_eq, decide_eq_true h1]
                rw [decide_eq_true h1] at HT HA
                by_cases h2 : xb = 0
                · have e2 : (xb != 0) = false := by rw [h2]; rfl
                  rw [decide_eq_true h2] at HT HA
                  have HT' := hide (show (!decide (zb = 0) && (ys.take (j + 1)).any (hit zn)) = false by rw [HT.out]; simp)
                  clear h1 h2 HT HA
                  go_wp2_with fail
                  go_quiet (fail)
                  go_wp2_with fail
                  refine ⟨⟨j + 1, by omega, by go_num, HT'.out, z0, z1, HX.out.drewN _, Kit.Below.drewN HBI.out _⟩, by simp [intOf]; omega⟩
                · have e2 : (xb != 0) = true := bne_iff_ne.2 h2
                  rw [decide_eq_false h2] at HT HA
                  by_cases h3 : zb = 0
                  · have e3 : (zb != 0) = false := by rw [h3]; rfl
                    rw [decide_eq_true h3] at HT HA
                    have HT' := hide (show (!decide (zb = 0) && (ys.take (j + 1)).any (hit zn)) = false by rw [decide_eq_true h3]; rfl)
                    clear h1 h2 h3 HT HA
                    go_wp2_with fail
                    go_quiet (fail)
                    go_wp2_with fail
                    refine ⟨⟨j + 1, by omega, by go_num, HT'.out, z0, z1, HX.out.drewN _, Kit.Below.drewN HBI.out _⟩, by simp [intOf]; omega⟩
                  · have e3 : (zb != 0) = true := bne_iff_ne.2 h3
                    rw [decide_eq_false h3] at HA
                    have HV := hide (HF.out (by rw [decide_eq_false h3, HA.out rfl]; rfl))
                    clear h1 h2 h3 HT HA
                    go_wp2_with fail
                    go_quiet (fail)
                    go_wp2_with fail
                    go_ret
                    exact ⟨by rw [HV.out]; rfl, Kit.Below.drewN HBI.out _⟩
              · have e1 : (xn.toList == zn.toList) = false := by rw [str_eq, decide_eq_false h1]
                rw [decide_eq_false h1] at HT HA
                have HT' := hide (show (!decide (zb = 0) && (ys.take (j + 1)).any (hit zn)) = false by rw [HT.out]; simp)
                clear h1 HT HA
                go_wp2_with fail
                go_quiet (fail)
                go_wp2_with fail
                refine ⟨⟨j + 1, by omega, by go_num, HT'.out, z0, z1, HX.out.drewN _, Kit.Below.drewN HBI.out _⟩, by simp [intOf]; omega⟩
            · have e : j = k := by omega
              subst e
              have HS' := hide (HS.out (by rw [hno]; rfl))
              clear HS HF hno hx hb x0 x1 z0 z1
              go_wp2_with fail
              refine ⟨⟨j + 1, by omega, by go_num, HS'.out, HX.out, HBI.out⟩, by simp [intOf]; omega⟩
        · have HV := hide ((obj_sizes (d := ⟨ps.map SV.d, ys⟩) HALL.out (fun j hj => HO.out j hj (Nat.lt_of_lt_of_le hj (show ys.length ≤ k by omega)))).trans (show _ = (decide (ps.length ≤ 8) && decide (ys.length ≤ 12)) by simp))
          clear HO hok hx hb
          by_cases h1 : ps.length ≤ 8
          · have e1 : decide ((ps.length : Int) ≤ 8) = true := decide_eq_true (by omega)
            rw [decide_eq_true h1] at HV
            by_cases h2 : ys.length ≤ 12
            · have e2 : decide ((ys.length : Int) ≤ 12) = true := decide_eq_true (by omega)
              rw [decide_eq_true h2] at HV
              clear h1 h2
              go_wp2_with fail
              go_ret
              exact ⟨by rw [HV.out]; rfl, HBI.out⟩
            · have e2 : decide ((ys.length : Int) ≤ 12) = false := decide_eq_false (by omega)
              rw [decide_eq_false h2] at HV
              clear h1 h2
              go_wp2_with fail
              go_ret
              exact ⟨by rw [HV.out]; rfl, HBI.out⟩
          · have e1 : decide ((ps.length : Int) ≤ 8) = false := decide_eq_false (by omega)
            rw [decide_eq_false h1] at HV
            clear h1
            go_wp2_with fail
            go_ret
            exact ⟨by rw [HV.out]; simp, HBI.out⟩
end Go.Proofs.YtmglgjchemecjaaGreat.CObjValidS
/- The warnings for an object; plain. -/
namespace Go.Proofs.YtmglgjchemecjaaGreat.PWarn
set_option maxRecDepth 200000
open Go.ChangeShapes Go.WideShapes Go.ChangeAt Go.RowKit Kit CCode CFixups CSymbols PObj BObj PValid CUses CCovers CObjValid
abbrev WD := CWarnings.D
def dS : SD := ⟨ByteArray.empty, 0, 0, [], 0, []⟩
def dY : YD := (ByteArray.empty, 0, 0, 0)
def at1 (d : OD) (k : Nat) : List WD := if (d.ys.getD k dY).2.2.1 = -1 ∧ used d.ss k = false then [(1, (k : Int))] else []
def at2 (d : OD) (k : Nat) : List WD := if secSize (d.ss.getD k dS) = 0 then [(2, (k : Int))] else []
def at3 (d : OD) (k : Nat) : List WD := if coverB (d.ss.getD k dS) = true then [(3, (k : Int))] else []
def upto (f : Nat → List WD) (n : Nat) : List WD := (List.range n).flatMap f
theorem upto_succ (f : Nat → List WD) (n : Nat) : upto f (n + 1) = upto f n ++ f n := by
  unfold upto
  rw [List.range_succ, List.flatMap_append]
  simp
theorem upto_len {f : Nat → List WD} (h : ∀ k, (f k).length ≤ 1) : ∀ n, (upto f n).length ≤ n
  | 0 => by simp [upto]
  | n + 1 => by
    rw [upto_succ, List.length_append]
    have := upto_len h n
    have := h n
    omega
theorem at1_len (d : OD) (k : Nat) : (at1 d k).length ≤ 1 := by unfold at1; split <;> simp
theorem at2_len (d : OD) (k : Nat) : (at2 d k).length ≤ 1 := by unfold at2; split <;> simp
theorem at3_len (d : OD) (k : Nat) : (at3 d k).length ≤ 1 := by unfold at3; split <;> simp
def list (d : OD) : List WD := upto (at1 d) d.ys.length ++ upto (at2 d) d.ss.length ++ upto (at3 d) d.ss.length
def warns (d : OD) : List WD := bif objOk d then list d else []
theorem getS {ps : List SV} {k : Nat} (h : k < ps.length) : (ps.map SV.d).getD k dS = ps[k].d := by
  rw [List.getD_eq_getElem?_getD, List.getElem?_map, List.getElem?_eq_getElem h]
  rfl
theorem fixes_in {many : Int} {n : Nat} : ∀ {e : Int} {fs : List FD}, 0 ≤ e → fixesOk many n e fs = true → ∀ f ∈ fs, 0 ≤ f.1 ∧ f.1 + wide f.2.1 ≤ n
  | _, [], _, _, f, hf => by cases hf
  | e, g :: fs, he, h, f, hf => by
    simp only [fixesOk, Bool.and_eq_true] at h
    have hg := fixOk_iff.1 h.1
    have hw := wide_bd g.2.1
    rcases List.mem_cons.1 hf with rfl | hf
    · omega
    · exact fixes_in (by omega) h.2 f hf
theorem sec_in {many : Int} {d : SD} (h : secOk many d = true) : InB d.zs d.fs := by
  rw [secOk, Bool.and_eq_true] at h
  obtain ⟨_, h⟩ := h
  split at h
  · simp only [blankOk, Bool.and_eq_true, decide_eq_true_eq] at h
    have : d.fs = [] := List.eq_nil_of_length_eq_zero h.2
    rw [this]
    intro f hf
    cases hf
  · simp only [bodyOk, Bool.and_eq_true] at h
    exact fixes_in (Int.le_refl 0) h.2
theorem obj_facts {d : OD} (h : objOk d = true) : d.ss.length ≤ 8 ∧ d.ys.length ≤ 12 ∧ ∀ s ∈ d.ss, InB s.zs s.fs := by
  simp only [objOk, Bool.and_eq_true, decide_eq_true_eq, List.all_eq_true] at h
  exact ⟨h.1.1.1, h.1.1.2, fun s hs => sec_in (h.1.2 s hs)⟩
theorem list_len {d : OD} (h1 : d.ss.length ≤ 8) (h2 : d.ys.length ≤ 12) : (list d).length ≤ 28 := by
  unfold list
  rw [List.length_append, List.length_append]
  have := upto_len (at1_len d) d.ys.length
  have := upto_len (at2_len d) d.ss.length
  have := upto_len (at3_len d) d.ss.length
  omega
end Go.Proofs.YtmglgjchemecjaaGreat.PWarn
/- Clearing what fixups fill: plain; and the stores that do it. -/
namespace Go.Proofs.YtmglgjchemecjaaGreat.PClear
set_option maxRecDepth 200000
open Go.ChangeShapes Go.WideShapes Go.ChangeAt Go.RowKit Kit CFixups CSymbols PObj BObj CMarkRows PValid BStore CCovers PWarn
def setz (zs : List Int) (a : Nat) : Nat → List Int
  | 0 => zs
  | n + 1 => (setz zs a n).set (a + n) 0
theorem setz_len (zs : List Int) (a : Nat) : ∀ n, (setz zs a n).length = zs.length
  | 0 => rfl
  | n + 1 => by rw [setz, List.length_set, setz_len zs a n]
def clr (zs : List Int) (f : FD) : List Int := setz zs f.1.toNat (wide f.2.1).toNat
theorem clr_len (zs : List Int) (f : FD) : (clr zs f).length = zs.length := setz_len _ _ _
def clrs (zs : List Int) (fs : List FD) : List Int := fs.foldl clr zs
theorem clrs_len (fs : List FD) : ∀ zs, (clrs zs fs).length = zs.length := by
  induction fs with
  | nil => intro zs; rfl
  | cons f fs ih => intro zs; rw [clrs, List.foldl_cons, ← clrs, ih, clr_len]
theorem clrs_snoc (zs : List Int) (fs : List FD) (f : FD) : clrs zs (fs ++ [f]) = clr (clrs zs fs) f := by simp [clrs, List.foldl_append]
def clrP (p : SV) (fs : List FD) : SV := { p with zs := clrs p.zs fs }
def clrA (p : SV) : SV := clrP p p.fs
theorem clrP_nil (p : SV) : clrP p [] = p := rfl
theorem clrP_cells (p : SV) (fs : List FD) : secC (clrP p fs) = secC p := by simp [secC, clrP, clrs_len]
def clearS (s : SD) : SD := { s with zs := clrs s.zs s.fs }
def clearD (d : OD) : OD := bif objOk d then ⟨d.ss.map clearS, d.ys⟩ else ⟨[], []⟩
theorem clear_bad {d : OD} (h : objOk d = false) : clearD d = ⟨[], []⟩ := by rw [clearD, h]; rfl
theorem clear_ok {ps : List SV} {ys : List YD} (h : objOk ⟨ps.map SV.d, ys⟩ = true) : clearD ⟨ps.map SV.d, ys⟩ = ⟨(ps.map clrA).map SV.d, ys⟩ := by
  rw [clearD, h, cond_true, List.map_map, List.map_map]
  rfl
/-- What the clearing of a valid object needs. -/
def FxOk (p : SV) : Prop := ∀ f ∈ p.fs, 0 ≤ f.1 ∧ f.1 + wide f.2.1 ≤ p.zs.length ∧ 0 < wide f.2.1
theorem fixes_all {many : Int} {n : Nat} : ∀ {e : Int} {fs : List FD}, 0 ≤ e → fixesOk many n e fs = true → ∀ f ∈ fs, (0 ≤ f.1 ∧ f.1 + wide f.2.1 ≤ n ∧ 0 < wide f.2.1) ∧ 0 ≤ f.2.2.1 ∧ f.2.2.1 < many
  | _, [], _, _, f, hf => by cases hf
  | e, g :: fs, he, h, f, hf => by
    simp only [fixesOk, Bool.and_eq_true] at h
    have hg := fixOk_iff.1 h.1
    have hw := wide_bd g.2.1
    rcases List.mem_cons.1 hf with rfl | hf
    · omega
    · exact fixes_all (by omega) h.2 f hf
theorem sec_all {many : Int} {d : SD} (h : secOk many d = true) : d.fs.length ≤ 6 ∧ d.zs.length ≤ 48 ∧ ∀ f ∈ d.fs, (0 ≤ f.1 ∧ f.1 + wide f.2.1 ≤ d.zs.length ∧ 0 < wide f.2.1) ∧ 0 ≤ f.2.2.1 ∧ f.2.2.1 < many := by
  rw [secOk, Bool.and_eq_true] at h
  obtain ⟨_, h⟩ := h
  split at h
  · simp only [blankOk, Bool.and_eq_true, decide_eq_true_eq] at h
    have : d.fs = [] := List.eq_nil_of_length_eq_zero h.2
    rw [this]
    refine ⟨by simp, by omega, ?_⟩
    intro f hf
    cases hf
  · simp only [bodyOk, Bool.and_eq_true, decide_eq_true_eq] at h
    exact ⟨h.1.2, h.1.1.2, fixes_all (Int.le_refl 0) h.2⟩
theorem obj_all {d : OD} (h : objOk d = true) : d.ss.length ≤ 8 ∧ d.ys.length ≤ 12 ∧ ∀ s ∈ d.ss, s.fs.length ≤ 6 ∧ s.zs.length ≤ 48 ∧ ∀ f ∈ s.fs, (0 ≤ f.1 ∧ f.1 + wide f.2.1 ≤ s.zs.length ∧ 0 < wide f.2.1) ∧ 0 ≤ f.2.2.1 ∧ f.2.2.1 < d.ys.length := by
  simp only [objOk, Bool.and_eq_true, decide_eq_true_eq, List.all_eq_true] at h
  exact ⟨h.1.1.1, h.1.1.2, fun s hs => sec_all (h.1.2 s hs)⟩
/-- A section's cells in the row of sections. -/
theorem row_at {w : World} {B : Nat} {A : Option Addr} {l1 l2 : List SV} {q : SV} (h : RdSs w B A (l1 ++ q :: l2)) :
    ∃ b off, A = some ⟨b, off, none⟩ ∧ b < B ∧ ∀ j u, (secC q)[j]? = some u → w.cell? ⟨b, off + l1.length * 6 + j, none⟩ = some u := by
  obtain ⟨b, off, hA, hb, hc⟩ := h.1.row secC_len (by decide) (show l1.length < (l1 ++ q :: l2).length by simp)
  refine ⟨b, off, hA, hb, fun j u hu => hc j u ?_⟩
  rw [List.getElem_append_right (Nat.le_refl _)]
  simpa using hu
/-- Bytes cleared at once. -/
theorem OwnO.clear {base c yc : Nat} {A Y : Option Addr} {l1 l2 : List SV} {q : SV} {ys : List YD} {g : Nat} (hA : q.A = some ⟨g, 0, none⟩) (a : Nat) :
    ∀ (n : Nat) (w : World), a + n ≤ q.zs.length → OwnO w base ⟨A, c, l1 ++ q :: l2, Y, yc, ys⟩ →
    OwnO (w.setCells g a (List.replicate n (.int .u8 0))) base ⟨A, c, l1 ++ { q with zs := setz q.zs a n } :: l2, Y, yc, ys⟩
  | 0, w, _, h => h
  | n + 1, w, hn, h => by
    rw [List.replicate_succ', ← Lib.setCells_snoc_w, List.length_replicate]
    exact OwnO.storeB (OwnO.clear hA a n w (by omega) h) hA (a + n) (by simp only [setz_len]; omega) 0
theorem clear_block (g : Nat) (k : Nat) (hk : k ≠ g) : ∀ (vs : List Value) (o : Nat) (w : World), (w.setCells g o vs).heap[k]? = w.heap[k]?
  | [], _, _ => rfl
  | v :: vs, o, w => by
    rw [World.setCells, clear_block g k hk vs]
    exact Below.heap_setCell _ _ _ k hk
theorem clear_box {w : World} {X g o : Nat} {t : TypeId} {cs : Array Value} {vs : List Value} (h : Box w X t cs) (hne : X ≠ g) : Box (w.setCells g o vs) X t cs := (clear_block g X hne vs o w).trans h
theorem zero8 (w : World) : (zeroValue 5).run Tryz.prog w = .ok (.int .u8 0) w := by
  have e : Tryz.t5.zero = some (.int .u8 0) := by kernel_rfl
  simp [zeroValue, e]
theorem step_clear {ops : Array Oper} {o : Oper} {a : Act} {w : World} {K : Act → World → Prop} {Q : Exit → Act → World → Prop} {E : Prop} (hgd : o.guard = none) (s : Operand)
    (ho : o.op = .call { callee := .builtin .clear, args := #[s], argTypes := #[34] }) (b off n c : Nat) (hs : a.eval s = .slice (some ⟨b, off, none⟩) n c) (hn : 0 < n)
    (hc : ∀ j, j < n → (w.cell? ⟨b, off + j, none⟩).isSome = true) (hf : ∀ j, j < n → w.frozen? ⟨b, off + j, none⟩ = false)
    (h : K (a.put o.dst (.tuple #[])) (w.setCells b off (List.replicate n (.int .u8 0)))) :
    if Region.wanted o (yielded ops a.tmps) = true then Oper.wp Tryz.prog o a w K Q else E := by
  have hw : Region.wanted o (yielded ops a.tmps) = true := by simp [Region.wanted, hgd]
  rw [if_pos hw]
  have hrun := Lib.run_clear_slice (P := Tryz.prog) w 34 5 o.type (.int .u8 0) Tryz.underlying34 zero8 rfl rfl b off n c hn hc hf
  unfold Oper.wp
  simp [execOp, ho, resolve, invoke, builtin, hs, hrun, Result.andThen]
  exact (show K _ _ from by simpa using h)
end Go.Proofs.YtmglgjchemecjaaGreat.PClear
/- What the walks of exact laws on objects share. -/
namespace Go.Proofs.YtmglgjchemecjaaGreat.WObj
set_option maxRecDepth 200000
open Go.ChangeShapes Go.WideShapes Go.ChangeAt Go.RowKit Kit CCode CFixups CSymbols PObj BObj PValid CObjValid CSections CObject CObject2 CMarkRows
def sumD (d : OD) : Int := (d.ss.length : Int) + tot d.ss + d.ys.length + toty d.ys
theorem sum_D (o : OV) : sum o = sumD o.d := by simp [sum, sumD, OV.d]
theorem sum_d {o o' : OV} (h : o'.d = o.d) : sum o' = sum o := by rw [sum_D, sum_D, h]
theorem sumD_nonneg (d : OD) : 0 ≤ sumD d := by
  have h1 := tot_nonneg d.ss
  have h2 := toty_nonneg d.ys
  unfold sumD
  omega
theorem fit_own {o : OV} {w : World} {base : Nat} (hs : sum o ≤ 1048576) (ho : OwnO w base o) : Fit o ∧ (∀ p ∈ o.ps, p.zs.length ≤ p.c) := by
  obtain ⟨⟨l1, l2, l3⟩, l4, l5⟩ := sum_lim hs
  have hmx : (1048576 : Nat) ≤ maxLen := by decide
  refine ⟨⟨l1, l2, ho.2.cap.1, fun p hp => ⟨Nat.le_trans (l4 p hp) hmx, (l3 p hp).1, (l3 p hp).2⟩, fun y hy => Nat.le_trans (l5 y hy) hmx⟩, fun p hp => ((ho.1.2.1 p hp).1).cap.1⟩
theorem RdO.call2 {w w' : World} {o : OV} (h : RdO w w.heap.size o) (hb : Below w.heap.size w w') : RdO w' w'.heap.size o := (h.below hb).more hb.size
theorem own_up {w : World} {base b : Nat} {o : OV} (h : OwnO w base o) (hb : ∀ k, oblk o k → b ≤ k) : OwnO w b o :=
  ⟨⟨h.1.1.up (fun k hk => hb k (.inl (.inl hk))), fun p hp => ⟨(h.1.2.1 p hp).1.up (fun k hk => hb k (.inl (.inr ⟨p, hp, .inl hk⟩))), (h.1.2.1 p hp).2.up (fun k hk => hb k (.inl (.inr ⟨p, hp, .inr hk⟩)))⟩, h.1.2.2⟩, h.2.up (fun k hk => hb k (.inr hk))⟩
/-- A mark in the memory of another: the same sum. -/
theorem tot_map {f : SD → SD} (hf : ∀ s, wt (f s) = wt s) : ∀ ds : List SD, tot (ds.map f) = tot ds
  | [] => rfl
  | d :: ds => by
    have := tot_map hf ds
    simp [tot, hf, this]
theorem clear_sum (d : OD) : sumD (PClear.clearD d) ≤ sumD d := by
  have h0 := sumD_nonneg d
  unfold PClear.clearD
  cases objOk d
  · simpa [sumD, tot, toty] using h0
  · simp only [sumD, cond_true, List.length_map]
    rw [tot_map (fun s => by simp [wt, PClear.clearS, PClear.clrs_len])]
    exact Int.le_refl _
end Go.Proofs.YtmglgjchemecjaaGreat.WObj
