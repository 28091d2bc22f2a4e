/- An object that grows: a section or a symbol is put behind its last. -/
import Derived.Test.YtmglgjchemecjaaFnSameObjectM4
import Derived.Lib.AppendZerosOnto
import Derived.WalkSpells
import Derived.Deep.RegionHeld3
import Derived.Deep.RegionLaw
import Derived.Deep.RegionLawGrows
import Derived.Lib.SliceRun
import Derived.Deep.QuietTactic
import Derived.BigQuiet
import Derived.Test.YtmglgjchemecjaaRows
import Derived.Lib.OwnBridge
import Derived.Lib.SlicesS
import Derived.StillTailTactics
set_option linter.unusedSimpArgs false
set_option linter.unusedVariables false
namespace Go.Proofs.Ytmglgjchemecjaa.BObj2
set_option maxRecDepth 200000
open Go.ChangeShapes Go.WideShapes Go.ChangeAt Go.RowKit Kit CFixups CSymbols PObj BObj CMarkRows
theorem one_sec (q : SV) : ∀ u ∈ secC q, u.oneCell' = true := by
  intro u hu
  simp only [secC, List.mem_cons, List.not_mem_nil, or_false] at hu
  rcases hu with rfl | rfl | rfl | rfl | rfl | rfl <;> rfl
theorem ys_snoc (ys : List YD) (z : YD) : cellsOf symbolC (ys ++ [z]) = cellsOf symbolC ys ++ symbolC z := by simp [cellsOf]
section
variable {w w' : World} {base N : Nat} {o : OV}
/-- A section is put behind the last: its rows are there already, and newer than the others. -/
theorem _root_.Go.Proofs.Ytmglgjchemecjaa.BObj.OwnO.addS (h : OwnO w base o) {q : SV} (hq : RwS w base q) (hold : ∀ p ∈ o.ps, ∀ k, sblk p k → k < N) (hnew : ∀ k, sblk q k → N ≤ k) {A' : Option Addr} {n' c' : Nat} (hn : n' = o.ps.length + 1)
    (row : Row w' base 73 6 A' n' c' (cellsOf secC o.ps ++ secC q)) (g : w.grownBy w' (blk o.A o.c)) : OwnO w' base { o with A := A', c := c', ps := o.ps ++ [q] } := by
  subst hn
  have hS : ∀ p, RwS w base p → RwS w' base p := fun p hp => ⟨hp.1.grown g (fun k hk => apartT hp.1 h.1.1 (by decide) k hk), hp.2.grown g (fun k hk => apartT hp.2 h.1.1 (by decide) k hk)⟩
  refine ⟨⟨?_, ?_, ?_⟩, h.2.grown g (fun k hk => apartT h.2 h.1.1 (by decide) k hk)⟩
  · rw [← cells_snoc] at row
    show Row w' base _ 6 A' (o.ps ++ [q]).length c' _
    rw [List.length_append]
    exact row
  · exact RwSs.snoc (fun p hp => hS p (h.1.2.1 p hp)) (hS q hq)
  · exact PwSs.snoc h.1.2.2 hold hnew
/-- A symbol is put behind the last. -/
theorem _root_.Go.Proofs.Ytmglgjchemecjaa.BObj.OwnO.addY (h : OwnO w base o) (zs : List YD) {Y' : Option Addr} {n' c' : Nat} (hn : n' = o.ys.length + zs.length)
    (row : Row w' base 69 4 Y' n' c' (cellsOf symbolC o.ys ++ cellsOf symbolC zs)) (g : w.grownBy w' (blk o.Y o.yc)) : OwnO w' base { o with Y := Y', yc := c', ys := o.ys ++ zs } := by
  subst hn
  refine ⟨⟨h.1.1.grown g (fun k hk => apartT h.1.1 h.2 (by decide) k hk), fun p hp => ⟨(h.1.2.1 p hp).1.grown g (fun k hk => apartT (h.1.2.1 p hp).1 h.2 (by decide) k hk), (h.1.2.1 p hp).2.grown g (fun k hk => apartT (h.1.2.1 p hp).2 h.2 (by decide) k hk)⟩, h.1.2.2⟩, ?_⟩
  show Row w' base _ 4 Y' (o.ys ++ zs).length c' (cellsOf symbolC (o.ys ++ zs))
  rw [List.length_append, show cellsOf symbolC (o.ys ++ zs) = cellsOf symbolC o.ys ++ cellsOf symbolC zs by simp [cellsOf]]
  exact row
/-- A box of another type than an object's rows is none of its blocks. -/
theorem _root_.Go.Proofs.Ytmglgjchemecjaa.BObj.OwnO.ne_box (h : OwnO w base o) {X : Nat} {t : TypeId} {cs : Array Value} (hb : Box w X t cs) (h1 : 5 ≠ t) (h2 : 77 ≠ t) (h3 : 73 ≠ t) (h4 : 69 ≠ t) : ∀ k, oblk o k → k ≠ X := by
  rintro k ((hk | ⟨p, hp, hk⟩) | hk)
  · exact h.1.1.box hb h3 k hk
  · exact (h.1.2.1 p hp).box hb h1 h2 k hk
  · exact h.2.box hb h4 k hk
theorem _root_.Go.Proofs.Ytmglgjchemecjaa.BObj.OwnO.set (h : OwnO w base o) {a : Addr} (ha : ∀ k, oblk o k → k ≠ a.block) (u : Value) : OwnO (w.setCell a u) base o := h.keep fun k hk => Below.heap_setCell w a u k (ha k hk)
theorem _root_.Go.Proofs.Ytmglgjchemecjaa.BObj.OwnO.grownR (h : OwnO w base o) {R : Nat} (g : w.grownBy w' (some R)) (hR : R < base) : OwnO w' base o := h.keep fun k hk => g.block k (h.lt k hk).2 (fun e => by injection e with e; have := (h.lt k hk).1; omega)
end
end Go.Proofs.Ytmglgjchemecjaa.BObj2
/- slices.Clone of symbols, fixups and bytes. -/
namespace Go.Proofs.Ytmglgjchemecjaa.CClones
set_option maxRecDepth 200000
open Go.ChangeShapes Go.WideShapes Go.ChangeAt Go.RowKit Kit CFixups CSymbols PObj BObj CMarkRows CObjValid CCopyS
/-- A row of the call's own. -/
def RetRow (T m n : Nat) (xs : List Value) (w : World) (e : Ending) (w' : World) : Prop := ∃ A c, e = .returned (.slice A n c) ∧ Row w' w.heap.size T m A n c xs ∧ Below w.heap.size w w'
theorem cloneY_any (A : Option Addr) (xs : List YD) (c B : Nat) (w : World) (hx : Rd w B A (cellsOf symbolC xs)) (hB : B ≤ w.heap.size) (hxm : xs.length ≤ 1048576) (hnil : A = none → c = 0) :
    Calls Try.prog 111 #[.slice A xs.length c] w (RetRow 69 4 xs.length (cellsOf symbolC xs) w) := by
  obtain ⟨i0, hi, hz0, hz1, hz2⟩ := info_parts infoY
  have hq := fun W => Lib.run_eql_slice_nil (P := Try.prog) W 24 69 A xs.length c 0 0 Try.underlying24
  cases A with
  | none =>
    have hxs : xs = [] := by
      cases xs with
      | nil => rfl
      | cons u r =>
        obtain ⟨b, off, e', _⟩ := hx 0 _ rfl
        cases e'
    subst hxs
    have hc := hnil rfl
    subst hc
    clear hnil hx
    simp only [Option.isNone_none, List.length_nil] at hq
    show Calls _ _ #[.slice none 0 0] _ _
    go_enter Try.func111, Try.ntmps111
    go_wp2_with fail
    go_ret
    exact ⟨none, 0, rfl, Row.empty _ _ _ _ _, Below.refl _ _⟩
  | some ad =>
    have HX := hide ((hx.more hB).below ((Below.refl _ _).alloc (Nat.le_refl _) (.cells #[] 69)))
    have HB : Hid (Below w.heap.size w (w.alloc (.cells #[] 69))) := (by repeat (first | exact Below.refl _ _ | with_reducible assumption | (refine Below.drew ?_) | (refine Below.drewN ?_ _) | (refine Below.alloc ?_ (by simp; try omega) _) | (refine Below.setCell ?_ (by simp; try omega) _)))
    have HI := hide (And.intro hi (And.intro hz0 (And.intro hz1 hz2)))
    simp only [Option.isNone_some] at hq
    clear hx hnil hi hz0 hz1 hz2
    go_enter Try.func111, Try.ntmps111
    go_wp2_with (at_builtin; refine wpList_app _ rfl (.tmp 5) (.tmp 6) 24 rfl 69 i0 (.agg #[.string ByteArray.empty, .int .i64 0, .int .i64 0, .int .i64 0]) 4 40 Try.underlying24 HI.out.1 HI.out.2.1 HI.out.2.2.1 HI.out.2.2.2 rfl (by decide) w.heap.size (some ⟨w.heap.size, 0, none⟩) 0 0 [] rfl (Row.empty _ _ _ _ _) HB.out.size (some ad) xs.length c (cellsOf symbolC xs) rfl HX.out (cellsOf_len symbolC_len xs) (fun h => by cases h) (one_sym xs) ?n1 ?n2 ?_)
    case n1 => unfold maxLen; omega
    case n2 => omega
    intro A6 n6 c6 w6 hn6 o6 g6 k6
    have hn6 : n6 = xs.length := by omega
    have HO6 := hide (show Row w6 w.heap.size 69 4 A6 n6 c6 (cellsOf symbolC xs) from o6)
    have HB6 := hide (HB.out.grown g6 HB.out.size (fun k hk => by cases hk))
    clear o6 g6 k6
    subst hn6
    go_wp2_with fail
    go_ret
    exact ⟨A6, c6, rfl, HO6.out, HB6.out⟩
theorem cloneF_any (A : Option Addr) (xs : List FD) (c B : Nat) (w : World) (hx : Rd w B A (cellsOf fixupC xs)) (hB : B ≤ w.heap.size) (hxm : xs.length ≤ 1048576) (hnil : A = none → c = 0) :
    Calls Try.prog 113 #[.slice A xs.length c] w (RetRow 77 4 xs.length (cellsOf fixupC xs) w) := by
  obtain ⟨i0, hi, hz0, hz1, hz2⟩ := info_parts CFixups.info
  have hq := fun W => Lib.run_eql_slice_nil (P := Try.prog) W 71 77 A xs.length c 0 0 Try.underlying71
  cases A with
  | none =>
    have hxs : xs = [] := by
      cases xs with
      | nil => rfl
      | cons u r =>
        obtain ⟨b, off, e', _⟩ := hx 0 _ rfl
        cases e'
    subst hxs
    have hc := hnil rfl
    subst hc
    clear hnil hx
    simp only [Option.isNone_none, List.length_nil] at hq
    show Calls _ _ #[.slice none 0 0] _ _
    go_enter Try.func113, Try.ntmps113
    go_wp2_with fail
    go_ret
    exact ⟨none, 0, rfl, Row.empty _ _ _ _ _, Below.refl _ _⟩
  | some ad =>
    have HX := hide ((hx.more hB).below ((Below.refl _ _).alloc (Nat.le_refl _) (.cells #[] 77)))
    have HB : Hid (Below w.heap.size w (w.alloc (.cells #[] 77))) := (by repeat (first | exact Below.refl _ _ | with_reducible assumption | (refine Below.drew ?_) | (refine Below.drewN ?_ _) | (refine Below.alloc ?_ (by simp; try omega) _) | (refine Below.setCell ?_ (by simp; try omega) _)))
    have HI := hide (And.intro hi (And.intro hz0 (And.intro hz1 hz2)))
    simp only [Option.isNone_some] at hq
    clear hx hnil hi hz0 hz1 hz2
    go_enter Try.func113, Try.ntmps113
    go_wp2_with (at_builtin; refine wpList_app _ rfl (.tmp 5) (.tmp 6) 71 rfl 77 i0 (.agg #[.int .i64 0, .int .i64 0, .int .i64 0, .int .i64 0]) 4 32 Try.underlying71 HI.out.1 HI.out.2.1 HI.out.2.2.1 HI.out.2.2.2 rfl (by decide) w.heap.size (some ⟨w.heap.size, 0, none⟩) 0 0 [] rfl (Row.empty _ _ _ _ _) HB.out.size (some ad) xs.length c (cellsOf fixupC xs) rfl HX.out (cellsOf_len fixupC_len xs) (fun h => by cases h) (one_fix xs) ?n1 ?n2 ?_)
    case n1 => unfold maxLen; omega
    case n2 => omega
    intro A6 n6 c6 w6 hn6 o6 g6 k6
    have hn6 : n6 = xs.length := by omega
    have HO6 := hide (show Row w6 w.heap.size 77 4 A6 n6 c6 (cellsOf fixupC xs) from o6)
    have HB6 := hide (HB.out.grown g6 HB.out.size (fun k hk => by cases hk))
    clear o6 g6 k6
    subst hn6
    go_wp2_with fail
    go_ret
    exact ⟨A6, c6, rfl, HO6.out, HB6.out⟩
theorem clone8_any (A : Option Addr) (xs : List Int) (c B : Nat) (w : World) (hx : Rd w B A (ints .u8 xs)) (hB : B ≤ w.heap.size) (hxm : xs.length ≤ 1048576) (hnil : A = none → c = 0) :
    Calls Try.prog 112 #[.slice A xs.length c] w (RetRow 5 1 xs.length (ints .u8 xs) w) := by
  obtain ⟨i0, hi, hz0, hz1, hz2⟩ := info_parts CBytes.info8
  have hq := fun W => Lib.run_eql_slice_nil (P := Try.prog) W 22 5 A xs.length c 0 0 Try.underlying22
  cases A with
  | none =>
    have hxs : xs = [] := by
      cases xs with
      | nil => rfl
      | cons u r =>
        obtain ⟨b, off, e', _⟩ := hx 0 (.int .u8 u) rfl
        cases e'
    subst hxs
    have hc := hnil rfl
    subst hc
    clear hnil hx
    simp only [Option.isNone_none, List.length_nil] at hq
    show Calls _ _ #[.slice none 0 0] _ _
    go_enter Try.func112, Try.ntmps112
    go_wp2_with fail
    go_ret
    exact ⟨none, 0, rfl, Row.empty _ _ _ _ _, Below.refl _ _⟩
  | some ad =>
    have HX := hide ((hx.more hB).below ((Below.refl _ _).alloc (Nat.le_refl _) (.cells #[] 5)))
    have HB : Hid (Below w.heap.size w (w.alloc (.cells #[] 5))) := (by repeat (first | exact Below.refl _ _ | with_reducible assumption | (refine Below.drew ?_) | (refine Below.drewN ?_ _) | (refine Below.alloc ?_ (by simp; try omega) _) | (refine Below.setCell ?_ (by simp; try omega) _)))
    have HI := hide (And.intro hi (And.intro hz0 (And.intro hz1 hz2)))
    simp only [Option.isNone_some] at hq
    clear hx hnil hi hz0 hz1 hz2
    go_enter Try.func112, Try.ntmps112
    go_wp2_with (at_builtin; refine wpList_app _ rfl (.tmp 5) (.tmp 6) 22 rfl 5 i0 (.int .u8 0) 1 1 Try.underlying22 HI.out.1 HI.out.2.1 HI.out.2.2.1 HI.out.2.2.2 rfl (by decide) w.heap.size (some ⟨w.heap.size, 0, none⟩) 0 0 [] rfl (Row.empty _ _ _ _ _) HB.out.size (some ad) xs.length c (ints .u8 xs) rfl HX.out (by simp) (fun h => by cases h) (one_ints _ xs) ?n1 ?n2 ?_)
    case n1 => unfold maxLen; omega
    case n2 => omega
    intro A6 n6 c6 w6 hn6 o6 g6 k6
    have hn6 : n6 = xs.length := by omega
    have HO6 := hide (show Row w6 w.heap.size 5 1 A6 n6 c6 (ints .u8 xs) from o6)
    have HB6 := hide (HB.out.grown g6 HB.out.size (fun k hk => by cases hk))
    clear o6 g6 k6
    subst hn6
    go_wp2_with fail
    go_ret
    exact ⟨A6, c6, rfl, HO6.out, HB6.out⟩
end Go.Proofs.Ytmglgjchemecjaa.CClones
/- The program's copyObject: an object in new memory. -/
namespace Go.Proofs.Ytmglgjchemecjaa.CCopyI
set_option maxRecDepth 200000
open Go.ChangeShapes Go.WideShapes Go.ChangeAt Go.RowKit Kit CFixups CSymbols PObj BObj CMarkRows CObjValid CCopyS CClones
set_option maxHeartbeats 2000000 in
theorem copyObject_any (o : OV) (w : World) (hr : RdO w w.heap.size o) (hf : Fit o) (hn : Nils o) (hs : o.ps.length ≤ 100 ∧ o.ys.length ≤ 100) :
    Calls Try.prog 48 #[.agg #[.slice o.A o.ps.length o.c, .slice o.Y o.ys.length o.yc]] w (RetO o.d w) := by
  obtain ⟨ix, hx1, hx2, hx3, hx4⟩ := info_parts BObj.info
  have HIX := hide (And.intro hx1 (And.intro hx2 (And.intro hx3 hx4)))
  clear hx1 hx2 hx3 hx4
  obtain ⟨A, c, ps, Y, yc, ys⟩ := o
  obtain ⟨np, ny, cy, hp, hy⟩ := hf
  obtain ⟨ny0, np0⟩ := hn
  obtain ⟨ss1, ss2⟩ := hs
  simp only at np ny cy hp hy ny0 np0 ss1 ss2 ⊢
  have HR := hide hr
  have HL := hide (And.intro hp np0)
  have HNY := hide ny0
  clear hr hp hy np0 ny0
  have B0 : Below w.heap.size w ((w.alloc (.cells #[.slice A ps.length c, .slice Y ys.length yc] 26)).alloc (.cells #[.slice none 0 0, .slice none 0 0] 26)) := (by repeat (first | exact Below.refl _ _ | with_reducible assumption | (refine Below.drew ?_) | (refine Below.drewN ?_ _) | (refine Below.alloc ?_ (by simp; try omega) _) | (refine Below.setCell ?_ (by simp; try omega) _)))
  have HV0 := hide ((Box.new w 26 #[.slice A ps.length c, .slice Y ys.length yc]).alloc (.cells #[.slice none 0 0, .slice none 0 0] 26))
  have HR0 := (Box.new (w.alloc (.cells #[.slice A ps.length c, .slice Y ys.length yc] 26)) 26 #[.slice none 0 0, .slice none 0 0])
  simp only [World.size_alloc] at HR0
  have HRR0 := hide HR0
  clear HR0
  have HB0 := hide B0
  have hVR : w.heap.size < w.heap.size + 1 := by omega
  clear B0
  go_enter Try.func48, Try.ntmps48
  go_wp2_with fail
  refine (cloneY_any Y ys yc w.heap.size _ (HR.out.2.below HB0.out) HB0.out.size (by omega) HNY.out).mono ?_
  rintro e w1 ⟨A1, c1, rfl, o1, b1⟩
  have HB1 := hide (HB0.out.trans (b1.mono HB0.out.size))
  have HV1 := hide (HV0.out.call b1)
  have HRR1 := hide (HRR0.out.call b1)
  have HY1 := hide (o1.down HB0.out.size)
  have hR0 := HRR1.out.lt
  have v0 := HV1.out.cell 0
  simp only [List.getElem?_toArray, List.getElem?_cons_zero, List.getElem?_cons_succ] at v0
  have hvl1 := HV1.out.lt
  clear o1 b1 HB0 HV0 HRR0
  go_wp2_with fail
  clear v0
  have HX2 := hide (Box.new w1 26 #[.slice none 0 0, .slice A1 ys.length c1])
  have HB2 := hide (HB1.out.alloc HB1.out.size (.cells #[.slice none 0 0, .slice A1 ys.length c1] 26))
  have HV2 := hide (HV1.out.alloc (.cells #[.slice none 0 0, .slice A1 ys.length c1] 26))
  have HRR2 := hide (HRR1.out.alloc (.cells #[.slice none 0 0, .slice A1 ys.length c1] 26))
  have HY2 := hide (HY1.out.alloc (.cells #[.slice none 0 0, .slice A1 ys.length c1] 26))
  clear HB1 HV1 HRR1 HY1
  generalize w1.alloc (.cells #[.slice none 0 0, .slice A1 ys.length c1] 26) = w2 at *
  have hRX : w.heap.size + 1 < w1.heap.size := hR0
  have hVX : w.heap.size < w1.heap.size := by omega
  generalize w1.heap.size = X at *
  generalize w.heap.size + 1 = R at *
  go_loopw [13] (fun i wi => ∃ (k : Nat) (qs : List SV) (Aq : Option Addr) (cq : Nat), k ≤ ps.length ∧ qs.length = k ∧ i = .int .i64 k ∧ qs.map SV.d = (ps.take k).map SV.d ∧ OwnSs wi w.heap.size Aq cq qs ∧ Box wi X 26 #[.slice Aq k cq, .slice A1 ys.length c1] ∧ Row wi w.heap.size 69 4 A1 ys.length c1 (cellsOf symbolC ys) ∧ Box wi w.heap.size 26 #[.slice A ps.length c, .slice Y ys.length yc] ∧ Box wi R 26 #[.slice none 0 0, .slice none 0 0] ∧ Below w.heap.size w wi) (fun i _ => ps.length - (intOf i).toNat)
  case atStart => exact ⟨0, [], none, 0, Nat.zero_le _, rfl, rfl, rfl, ⟨Row.empty _ _ _ _ _, (fun p hp => by cases hp), List.Pairwise.nil⟩, HX2.out, HY2.out, HV2.out, HRR2.out, HB2.out⟩
  case round =>
    clear HX2 HY2 HV2 HRR2 HB2
    obtain ⟨k, qs, Aq, cq, hk, hql, rfl, hqd, ho, hx, hrow, hv, hrr, hb⟩ := hrel
    have HO := hide ho
    have HX := hide hx
    have HY := hide hrow
    have HV := hide hv
    have HRR := hide hrr
    have HB := hide hb
    have HQ := hide (And.intro hql hqd)
    have v0 := hv.cell 0
    have x0 := hx.cell 0
    have x1 := hx.cell 1
    simp only [List.getElem?_toArray, List.getElem?_cons_zero, List.getElem?_cons_succ] at v0 x0 x1
    have hvl := hv.lt
    have hxl := hx.lt
    by_cases hlt : k < ps.length
    · obtain ⟨b, off, hA, hbg, hc⟩ := (HR.out.1.1.below hb).row secC_len (by decide) hlt
      have hbw : b < wr.heap.size := Nat.lt_of_lt_of_le hbg hb.size
      have hc0 := hc 0 _ rfl
      have hc1 := hc 1 _ rfl
      have hc2 := hc 2 _ rfl
      have hc3 := hc 3 _ rfl
      have hc4 := hc 4 _ rfl
      have hc5 := hc 5 _ rfl
      simp only [Nat.add_zero] at hc0
      have HM := hide (HL.out.1 _ (List.getElem_mem hlt))
      have HN := hide (HL.out.2 _ (List.getElem_mem hlt))
      have HRS := hide (HR.out.1.2 _ (List.getElem_mem hlt))
      have HD := hide (show (qs ++ [ps[k]]).map SV.d = (ps.take (k + 1)).map SV.d by rw [take_succ hlt, List.map_append, List.map_append, hqd])
      clear hql hqd ho hx hrow hv hrr hb hc
      subst hA
      generalize ps[k] = p at *
      have hmz := HM.out.2.1
      have hmf := HM.out.2.2
      go_wp2_with fail
      have HSa := Box.new wr 73 #[.string p.nm, .int .i64 p.kd, .int .i64 p.al, .slice p.A p.zs.length p.c, .int .i64 p.sz, .slice p.F p.fs.length p.fc]
      have HBA := hide (show Below wr.heap.size wr (wr.alloc (.cells #[.string p.nm, .int .i64 p.kd, .int .i64 p.al, .slice p.A p.zs.length p.c, .int .i64 p.sz, .slice p.F p.fs.length p.fc] 73)) from (by repeat (first | exact Below.refl _ _ | with_reducible assumption | (refine Below.drew ?_) | (refine Below.drewN ?_ _) | (refine Below.alloc ?_ (by simp; try omega) _) | (refine Below.setCell ?_ (by simp; try omega) _))))
      generalize wr.alloc (.cells #[.string p.nm, .int .i64 p.kd, .int .i64 p.al, .slice p.A p.zs.length p.c, .int .i64 p.sz, .slice p.F p.fs.length p.fc] 73) = wa at *
      have Z0 : wa.cell? ⟨wr.heap.size, 3, none⟩ = some (.slice p.A p.zs.length p.c) ∧ wa.cell? ⟨wr.heap.size, 5, none⟩ = some (.slice p.F p.fs.length p.fc) := ⟨HSa.cell 3, HSa.cell 5⟩
      have hSa := HSa.lt
      have HS := hide HSa
      have HWA := hide (HB.out.trans (HBA.out.mono HB.out.size))
      clear HSa hc0 hc1 hc2 hc3 hc4 hc5 v0 x0 x1
      refine Reg.startT (fun W => W.cell? ⟨wr.heap.size, 3, none⟩ = some (.slice p.A p.zs.length p.c) ∧ W.cell? ⟨wr.heap.size, 5, none⟩ = some (.slice p.F p.fs.length p.fc)) (fun j => j == 7 || j == 8 || j == 9) (by kernel_rfl) ?_
      have hHeld : wa.drew.cell? ⟨wr.heap.size, 3, none⟩ = some (.slice p.A p.zs.length p.c) ∧ wa.drew.cell? ⟨wr.heap.size, 5, none⟩ = some (.slice p.F p.fs.length p.fc) := Z0
      refine Reg.takeT (i := 0) (v := ?_) rfl (by kernel_rfl) (by kernel_rfl) (by kernel_rfl) (by kernel_rfl) (fun _ _ _ h => h) (Or.inl ⟨by rfl, ?_⟩) (by assumption) ?_
      rotate_left 1
      focus (intro w hSw; (try dsimp only at hSw); go_simp; (try with_reducible rfl))
      try simp only [List.getElem_toArray, List.getElem_cons_succ, List.getElem_cons_zero, Act.put, List.setIfInBounds_toArray, List.set_cons_zero, List.set_cons_succ]
      refine Reg.takeT (i := 1) (v := ?_) rfl (by kernel_rfl) (by kernel_rfl) (by kernel_rfl) (by kernel_rfl) (fun _ _ _ h => h) (Or.inl ⟨by rfl, ?_⟩) (by assumption) ?_
      rotate_left 1
      focus (intro w hSw; (try dsimp only at hSw); go_simp; (try with_reducible rfl))
      try simp only [List.getElem_toArray, List.getElem_cons_succ, List.getElem_cons_zero, Act.put, List.setIfInBounds_toArray, List.set_cons_zero, List.set_cons_succ]
      refine Reg.takeT (i := 3) (v := ?_) rfl (by kernel_rfl) (by kernel_rfl) (by kernel_rfl) (by kernel_rfl) (fun _ _ _ h => h) (Or.inl ⟨by rfl, ?_⟩) (by assumption) ?_
      rotate_left 1
      focus (intro w hSw; (try dsimp only at hSw); go_simp; (try with_reducible rfl))
      try simp only [List.getElem_toArray, List.getElem_cons_succ, List.getElem_cons_zero, Act.put, List.setIfInBounds_toArray, List.set_cons_zero, List.set_cons_succ]
      refine Reg.takeT (i := 4) (v := ?_) rfl (by kernel_rfl) (by kernel_rfl) (by kernel_rfl) (by kernel_rfl) (fun _ _ _ h => h) (Or.inl ⟨by rfl, ?_⟩) (by assumption) ?_
      rotate_left 1
      focus (intro w hSw; (try dsimp only at hSw); go_simp; (try with_reducible rfl))
      try simp only [List.getElem_toArray, List.getElem_cons_succ, List.getElem_cons_zero, Act.put, List.setIfInBounds_toArray, List.set_cons_zero, List.set_cons_succ]
      clear hHeld
      refine Reg.oneT (i := 2) rfl (by kernel_rfl) (fun K hK => ?_)
      go_simp
      refine (clone8_any p.A p.zs p.c w.heap.size _ (HRS.out.1.below (HWA.out.drew)) (show w.heap.size ≤ wa.drew.heap.size from HWA.out.size) (by omega) HN.out.1).mono ?_
      rintro e w2 ⟨A2, c2, rfl, o2, b2⟩
      have b2' : Below wa.heap.size wa w2 := below_drawn b2
      have HS2 := hide (HS.out.call b2')
      have HA2 := hide (And.intro (o2.down (show w.heap.size ≤ wa.drew.heap.size from HWA.out.size)) (fun k (hk : blk A2 c2 = some k) => (show wr.heap.size ≤ k from Nat.le_trans HBA.out.size ((o2.lt k hk).1))))
      have HBt := hide (HBA.out.trans (b2'.mono HBA.out.size))
      have hHeld : w2.cell? ⟨wr.heap.size, 3, none⟩ = some (.slice p.A p.zs.length p.c) ∧ w2.cell? ⟨wr.heap.size, 5, none⟩ = some (.slice p.F p.fs.length p.fc) := ⟨HS2.out.cell 3, HS2.out.cell 5⟩
      clear o2 b2 b2' HS Z0
      refine hK.out _ _ hHeld ?_
      clear hK K
      try simp only [List.getElem_toArray, List.getElem_cons_succ, List.getElem_cons_zero, Act.put, List.setIfInBounds_toArray, List.set_cons_zero, List.set_cons_succ]
      refine Reg.takeT (i := 6) (v := ?_) rfl (by kernel_rfl) (by kernel_rfl) (by kernel_rfl) (by kernel_rfl) (fun _ _ _ h => h) (Or.inl ⟨by rfl, ?_⟩) (by assumption) ?_
      rotate_left 1
      focus (intro w hSw; (try dsimp only at hSw); go_simp; (try with_reducible rfl))
      try simp only [List.getElem_toArray, List.getElem_cons_succ, List.getElem_cons_zero, Act.put, List.setIfInBounds_toArray, List.set_cons_zero, List.set_cons_succ]
      clear hHeld
      refine Reg.oneT (i := 5) rfl (by kernel_rfl) (fun K hK => ?_)
      go_simp
      have HW2 := hide (HB.out.trans (HBt.out.mono HB.out.size))
      refine (cloneF_any p.F p.fs p.fc w.heap.size _ (HRS.out.2.below HW2.out) HW2.out.size (by omega) HN.out.2).mono ?_
      rintro e w4 ⟨A5, c5, rfl, o5, b5⟩
      have HS4 := hide (HS2.out.call b5)
      have HA4 := hide (HA2.out.1.call b5)
      have HA2k := hide HA2.out.2
      have HF4 := hide (And.intro (o5.down HW2.out.size) (fun k (hk : blk A5 c5 = some k) => (show wr.heap.size ≤ k from Nat.le_trans HBt.out.size ((o5.lt k hk).1))))
      have HB4 := hide (HBt.out.trans (b5.mono HBt.out.size))
      have hHeld : w4.cell? ⟨wr.heap.size, 3, none⟩ = some (.slice p.A p.zs.length p.c) ∧ w4.cell? ⟨wr.heap.size, 5, none⟩ = some (.slice p.F p.fs.length p.fc) := ⟨HS4.out.cell 3, HS4.out.cell 5⟩
      have sf3 := HS4.out.frozen 3
      have sf5 := HS4.out.frozen 5
      have s3 := hHeld.1
      have s5 := hHeld.2
      have hSl4 := HS4.out.lt
      clear o5 b5 HS2 HA2 HBt HW2
      refine hK.out _ _ hHeld ?_
      clear hK K
      try simp only [List.getElem_toArray, List.getElem_cons_succ, List.getElem_cons_zero, Act.put, List.setIfInBounds_toArray, List.set_cons_zero, List.set_cons_succ]
      refine Reg.lastT (i := 7) rfl (by kernel_rfl) (by rfl) (fun K hK => ?_)
      go_simp
      refine hK.out _ _ ?_
      clear hK K
      try simp only [List.getElem_toArray, List.getElem_cons_succ, List.getElem_cons_zero, Act.put, List.setIfInBounds_toArray, List.set_cons_zero, List.set_cons_succ]
      refine Reg.lastT (i := 8) rfl (by kernel_rfl) (by rfl) (fun K hK => ?_)
      go_simp
      refine hK.out _ _ ?_
      clear hK K
      try simp only [List.getElem_toArray, List.getElem_cons_succ, List.getElem_cons_zero, Act.put, List.setIfInBounds_toArray, List.set_cons_zero, List.set_cons_succ]
      refine Reg.lastT (i := 9) rfl (by kernel_rfl) (by rfl) (fun K hK => ?_)
      go_simp
      refine hK.out _ _ ?_
      clear hK K hHeld s3 s5
      try simp only [List.getElem_toArray, List.getElem_cons_succ, List.getElem_cons_zero, Act.put, List.setIfInBounds_toArray, List.set_cons_zero, List.set_cons_succ]
      refine Reg.doneT (by kernel_rfl) ?_ _
      have HS5 := hide (show Box (w4.setCell ⟨wr.heap.size, 3, none⟩ (.slice A2 p.zs.length c2)) wr.heap.size 73 #[.string p.nm, .int .i64 p.kd, .int .i64 p.al, .slice A2 p.zs.length c2, .int .i64 p.sz, .slice p.F p.fs.length p.fc] from HS4.out.set 3 _)
      have HA5 := hide (HA4.out.set (a := ⟨wr.heap.size, 3, none⟩) (HA4.out.box HS4.out (by decide)) (.slice A2 p.zs.length c2))
      have HF5 := hide (And.intro (HF4.out.1.set (a := ⟨wr.heap.size, 3, none⟩) (HF4.out.1.box HS4.out (by decide)) (.slice A2 p.zs.length c2)) HF4.out.2)
      have HBt := hide (HB4.out.setCell (p := ⟨wr.heap.size, 3, none⟩) (Nat.le_refl _) (.slice A2 p.zs.length c2))
      clear HS4 HA4 HF4 HB4 sf3 sf5
      generalize w4.setCell ⟨wr.heap.size, 3, none⟩ (.slice A2 p.zs.length c2) = w5 at *
      have s0 := HS5.out.cell 0
      have s1 := HS5.out.cell 1
      have s2 := HS5.out.cell 2
      have s3 := HS5.out.cell 3
      have s4 := HS5.out.cell 4
      have s5 := HS5.out.cell 5
      have sf5 := HS5.out.frozen 5
      simp only [List.getElem?_toArray, List.getElem?_cons_zero, List.getElem?_cons_succ] at s0 s1 s2 s3 s4 s5
      have hSl5 := HS5.out.lt
      -- the world behind the stores into the section's variable
      have HB6 := hide (show Below wr.heap.size wr (w5.setCell ⟨wr.heap.size, 5, none⟩ (.slice A5 p.fs.length c5)) from HBt.out.setCell (p := ⟨wr.heap.size, 5, none⟩) (Nat.le_refl _) _)
      have HA6 := hide (HA5.out.set (a := ⟨wr.heap.size, 5, none⟩) (HA5.out.box HS5.out (by decide)) (.slice A5 p.fs.length c5))
      have HF6 := hide (HF5.out.1.set (a := ⟨wr.heap.size, 5, none⟩) (HF5.out.1.box HS5.out (by decide)) (.slice A5 p.fs.length c5))
      have HFk := hide HF5.out.2
      have HX6 := hide (HX.out.call HB6.out)
      have x0 := HX6.out.cell 0
      have x1 := HX6.out.cell 1
      have xf0 := HX6.out.frozen 0
      simp only [List.getElem?_toArray, List.getElem?_cons_zero, List.getElem?_cons_succ] at x0 x1
      have HSS6 := hide (show Box (w5.setCell ⟨wr.heap.size, 5, none⟩ (.slice A5 p.fs.length c5)) wr.heap.size 73 #[.string p.nm, .int .i64 p.kd, .int .i64 p.al, .slice A2 p.zs.length c2, .int .i64 p.sz, .slice A5 p.fs.length c5] from HS5.out.set 5 _)
      have u0 := HSS6.out.cell 0
      have u1 := HSS6.out.cell 1
      have u2 := HSS6.out.cell 2
      have u3 := HSS6.out.cell 3
      have u4 := HSS6.out.cell 4
      have u5 := HSS6.out.cell 5
      simp only [List.getElem?_toArray, List.getElem?_cons_zero, List.getElem?_cons_succ] at u0 u1 u2 u3 u4 u5
      have HO6 := hide (HO.out.call HB6.out)
      have HY6 := hide (HY.out.call HB6.out)
      have HV6 := hide (HV.out.call HB6.out)
      have HRR6 := hide (HRR.out.call HB6.out)
      have HBW6 := hide (HB.out.trans (HB6.out.mono HB.out.size))
      have HQlt := hide (fun x (hx : x ∈ qs) k (hk : sblk x k) => (show k < wr.heap.size from ((HO.out.2.1 x hx).lt k hk).2))
      have hcl : (cellsOf secC qs).length = k * 6 := by rw [cellsOf_len secC_len, HQ.out.1]
      clear HA5 HF5 HX HO HY HV HRR HB HBt HS5
      have hz6 : (w5.setCell ⟨wr.heap.size, 5, none⟩ (.slice A5 p.fs.length c5)).heap.size = w5.heap.size := by simp [World.setCell]
      have HSEC := hide (show Row ((w5.setCell ⟨wr.heap.size, 5, none⟩ (.slice A5 p.fs.length c5)).alloc (.cells #[.string p.nm, .int .i64 p.kd, .int .i64 p.al, .slice A2 p.zs.length c2, .int .i64 p.sz, .slice A5 p.fs.length c5] 73)) w.heap.size 73 6 Aq k cq (cellsOf secC qs) from by
        have h := (HO6.out.1).alloc (.cells #[.string p.nm, .int .i64 p.kd, .int .i64 p.al, .slice A2 p.zs.length c2, .int .i64 p.sz, .slice A5 p.fs.length c5] 73)
        rw [HQ.out.1] at h
        exact h)
      have HW7 := hide (HBW6.out.alloc HBW6.out.size (.cells #[.string p.nm, .int .i64 p.kd, .int .i64 p.al, .slice A2 p.zs.length c2, .int .i64 p.sz, .slice A5 p.fs.length c5] 73))
      go_wp2_with (at_builtin; refine wpList_app _ rfl (.tmp 26) (.tmp 28) 23 rfl 73 ix (.agg #[.string ByteArray.empty, .int .i64 0, .int .i64 0, .slice none 0 0, .int .i64 0, .slice none 0 0]) 6 88 Try.underlying23 HIX.out.1 HIX.out.2.1 HIX.out.2.2.1 HIX.out.2.2.2 rfl (by decide) w.heap.size Aq k cq (cellsOf secC qs) rfl HSEC.out HW7.out.size (some ⟨w5.heap.size, 0, none⟩) 1 1 [.string p.nm, .int .i64 p.kd, .int .i64 p.al, .slice A2 p.zs.length c2, .int .i64 p.sz, .slice A5 p.fs.length c5] rfl (rd_lit (w5.setCell ⟨wr.heap.size, 5, none⟩ (.slice A5 p.fs.length c5)) #[.string p.nm, .int .i64 p.kd, .int .i64 p.al, .slice A2 p.zs.length c2, .int .i64 p.sz, .slice A5 p.fs.length c5] 73 _ hz6.symm) rfl (fun h => by cases h) ?o1 ?n1 ?n2 ?_)
      case o1 => intro u hu; simp only [List.mem_cons, List.not_mem_nil, or_false] at hu; rcases hu with rfl | rfl | rfl | rfl | rfl | rfl <;> rfl
      case n1 => unfold maxLen; omega
      case n2 => omega
      intro A8 n8 c8 w8 hn8 o8 g8 k8
      subst hn8
      have HX7 := hide ((HX6.out.alloc (.cells #[.string p.nm, .int .i64 p.kd, .int .i64 p.al, .slice A2 p.zs.length c2, .int .i64 p.sz, .slice A5 p.fs.length c5] 73)).grown g8 (fun j hj => HSEC.out.box (HX6.out.alloc _) (by decide) j hj))
      have HV7 := hide ((HV6.out.alloc (.cells #[.string p.nm, .int .i64 p.kd, .int .i64 p.al, .slice A2 p.zs.length c2, .int .i64 p.sz, .slice A5 p.fs.length c5] 73)).grown g8 (fun j hj => HSEC.out.box (HV6.out.alloc _) (by decide) j hj))
      have HRR7 := hide ((HRR6.out.alloc (.cells #[.string p.nm, .int .i64 p.kd, .int .i64 p.al, .slice A2 p.zs.length c2, .int .i64 p.sz, .slice A5 p.fs.length c5] 73)).grown g8 (fun j hj => HSEC.out.box (HRR6.out.alloc _) (by decide) j hj))
      have HY7 := hide ((HY6.out.alloc (.cells #[.string p.nm, .int .i64 p.kd, .int .i64 p.al, .slice A2 p.zs.length c2, .int .i64 p.sz, .slice A5 p.fs.length c5] 73)).grown g8 (fun j hj h => apartT (HY6.out.alloc _) HSEC.out (by decide) j hj h))
      have HBW7 := hide (HW7.out.grown g8 HW7.out.size (fun j hj => (HSEC.out.lt j hj).1))
      have hgrow : ∀ x : SV, RwS ((w5.setCell ⟨wr.heap.size, 5, none⟩ (.slice A5 p.fs.length c5)).alloc (.cells #[.string p.nm, .int .i64 p.kd, .int .i64 p.al, .slice A2 p.zs.length c2, .int .i64 p.sz, .slice A5 p.fs.length c5] 73)) w.heap.size x → RwS w8 w.heap.size x := fun x hx => ⟨hx.1.grown g8 (fun j hj h => apartT hx.1 HSEC.out (by decide) j hj h), hx.2.grown g8 (fun j hj h => apartT hx.2 HSEC.out (by decide) j hj h)⟩
      have hq7 : RwS ((w5.setCell ⟨wr.heap.size, 5, none⟩ (.slice A5 p.fs.length c5)).alloc (.cells #[.string p.nm, .int .i64 p.kd, .int .i64 p.al, .slice A2 p.zs.length c2, .int .i64 p.sz, .slice A5 p.fs.length c5] 73)) w.heap.size ⟨p.nm, p.kd, p.al, A2, c2, p.zs, p.sz, A5, c5, p.fs⟩ := ⟨HA6.out.alloc _, HF6.out.alloc _⟩
      have hqs7 : ∀ x ∈ qs, RwS ((w5.setCell ⟨wr.heap.size, 5, none⟩ (.slice A5 p.fs.length c5)).alloc (.cells #[.string p.nm, .int .i64 p.kd, .int .i64 p.al, .slice A2 p.zs.length c2, .int .i64 p.sz, .slice A5 p.fs.length c5] 73)) w.heap.size x := fun x hx => (HO6.out.2.1 x hx).call ((Below.refl _ _).alloc (Nat.le_refl _) _)
      have hX7 := HX7.out
      have HOW := hide (show OwnSs (w8.setCell ⟨X, 0, none⟩ (.slice A8 (k + 1) c8)) w.heap.size A8 c8 (qs ++ [⟨p.nm, p.kd, p.al, A2, c2, p.zs, p.sz, A5, c5, p.fs⟩]) from by
        refine ⟨?_, ?_, ?_⟩
        · have h := (show Row w8 w.heap.size 73 6 A8 (k + 1) c8 _ from o8).set (a := ⟨X, 0, none⟩) ((show Row w8 w.heap.size 73 6 A8 (k + 1) c8 _ from o8).box hX7 (by decide)) (.slice A8 (k + 1) c8)
          rw [cells_snoc, List.length_append, HQ.out.1]
          exact h
        · refine RwSs.snoc (fun x hx => ?_) ?_
          · exact (hgrow x (hqs7 x hx)).set (a := ⟨X, 0, none⟩) ((hgrow x (hqs7 x hx)).box hX7 (by decide) (by decide)) _
          · exact (hgrow _ hq7).set (a := ⟨X, 0, none⟩) ((hgrow _ hq7).box hX7 (by decide) (by decide)) _
        · refine HO6.out.2.2.snoc (N := wr.heap.size) HQlt.out ?_
          rintro j (hj | hj)
          · exact HA2k.out j hj
          · exact HFk.out j hj)
      have HX8 := hide (show Box (w8.setCell ⟨X, 0, none⟩ (.slice A8 (k + 1) c8)) X 26 #[.slice A8 (k + 1) c8, .slice A1 ys.length c1] from hX7.set 0 _)
      have HY8 := hide (HY7.out.set (a := ⟨X, 0, none⟩) (HY7.out.box hX7 (by decide)) (.slice A8 (k + 1) c8))
      have HV8 := hide (HV7.out.far (p := ⟨X, 0, none⟩) (Nat.ne_of_lt hVX) (.slice A8 (k + 1) c8))
      have HRR8 := hide (HRR7.out.far (p := ⟨X, 0, none⟩) (Nat.ne_of_lt hRX) (.slice A8 (k + 1) c8))
      have HB8 := hide (HBW7.out.setCell (p := ⟨X, 0, none⟩) (Nat.le_of_lt hVX) (.slice A8 (k + 1) c8))
      have x0 := hX7.cell 0
      have x1 := hX7.cell 1
      have xf0 := hX7.frozen 0
      simp only [List.getElem?_toArray, List.getElem?_cons_zero, List.getElem?_cons_succ] at x0 x1
      have hxl8 := hX7.lt
      clear o8 g8 k8 hgrow hq7 hqs7 hX7 HX7 HV7 HRR7 HY7 HBW7 HSEC HW7 HO6 HY6 HV6 HRR6 HBW6 HX6 HSS6 u0 u1 u2 u3 u4 u5 s0 s1 s2 s3 s4 s5 sf5
      go_wp2_with fail
      refine ⟨⟨k + 1, qs ++ [⟨p.nm, p.kd, p.al, A2, c2, p.zs, p.sz, A5, c5, p.fs⟩], A8, c8, by omega, by simp [HQ.out.1], by go_num, ?_, HOW.out, HX8.out, HY8.out, HV8.out, HRR8.out, HB8.out⟩, by simp [intOf]; omega⟩
      rw [← HD.out, List.map_append, List.map_append]
      rfl
    · have e : k = ps.length := by omega
      have hqd' : qs.map SV.d = ps.map SV.d := by rw [hqd, List.take_of_length_le (by omega)]
      have HOO := hide (show OwnO wr w.heap.size ⟨Aq, cq, qs, A1, c1, ys⟩ from ⟨ho, hrow⟩)
      have HDD := hide (show OV.d ⟨Aq, cq, qs, A1, c1, ys⟩ = OV.d ⟨A, c, ps, Y, yc, ys⟩ by simp only [OV.d, hqd'])
      have HNE := hide (show ∀ j, oblk ⟨Aq, cq, qs, A1, c1, ys⟩ j → j ≠ R from by
        rintro j ((hj | ⟨x, hx, hj⟩) | hj)
        · exact ho.1.box hrr (by decide) j hj
        · exact (ho.2.1 x hx).box hrr (by decide) (by decide) j hj
        · exact hrow.box hrr (by decide) j hj)
      have HFIN := hide (CObject.ret_object HOO.out HB.out HNE.out (Nat.le_of_lt hVR))
      rw [HDD.out] at HFIN
      have y0 := hrr.cell 0
      have y1 := hrr.cell 1
      have yf0 := hrr.frozen 0
      have yf1 := hrr.frozen 1
      have hrl := hrr.lt
      simp only [List.getElem?_toArray, List.getElem?_cons_zero, List.getElem?_cons_succ] at y0 y1
      have kk := (HRR.out.set 0 (.slice Aq qs.length cq)).set 1 (.slice A1 ys.length c1)
      have k0 := kk.cell 0
      have k1 := kk.cell 1
      simp only [List.setIfInBounds_toArray, List.set_cons_zero, List.set_cons_succ, List.getElem?_toArray, List.getElem?_cons_zero, List.getElem?_cons_succ] at k0 k1
      clear kk ho hx hrow hv hrr hb hqd hqd' e
      subst hql
      go_wp2_with fail
      exact bodyPost_ret (v := OV.v ⟨Aq, cq, qs, A1, c1, ys⟩) (by simp [results, Try.results48, go_sem, OV.v, k0, k1]) rfl HFIN.out
end Go.Proofs.Ytmglgjchemecjaa.CCopyI
/- Stores into an object of one's own: a byte, a fixup's To, a symbol. -/
namespace Go.Proofs.Ytmglgjchemecjaa.BStore
set_option maxRecDepth 200000
open Go.ChangeShapes Go.WideShapes Go.ChangeAt Go.RowKit Kit CFixups CSymbols PObj BObj CMarkRows
theorem own_of {w : World} {base : Nat} {e : TypeId} {size n c : Nat} {A : Option Addr} {xs : List Value} (h : Row w base e size A n c xs) (hn : 0 < n) :
    ∃ g, A = some ⟨g, 0, none⟩ ∧ base ≤ g ∧ g < w.heap.size ∧ blk A c = some g ∧ w.ownsRow base e size (.slice (some ⟨g, 0, none⟩) n c) n xs := by
  have hc : c ≠ 0 := by
    have := h.cap.1
    omega
  have hown : w.ownsRow base e size (.slice A n c) n xs := h.elim (fun h => absurd h.2.1 hc) id
  rcases hown.2 with ⟨hv, h0⟩ | ⟨g, cap, c', hv, hN, _⟩
  · omega
  · injection hv with hA
    subst hA
    have hb : blk (some ⟨g, 0, none⟩) c = some g := by
      unfold blk
      rw [if_neg hc]
      rfl
    exact ⟨g, rfl, hN, (h.lt g hb).2, hb, hown⟩
/-- One section's rows turn, all else stays. -/
theorem OwnO.swap {w w' : World} {base c yc : Nat} {A Y : Option Addr} {l1 l2 : List SV} {q : SV} {ys : List YD} (h : OwnO w base ⟨A, c, l1 ++ q :: l2, Y, yc, ys⟩) (q' : SV)
    (hs : secC q' = secC q) (h1 : q'.A = q.A) (h2 : q'.c = q.c) (h3 : q'.F = q.F) (h4 : q'.fc = q.fc) (hq' : RwS w' base q') (g : Nat) (hg : sblk q g) (hk : ∀ k, k ≠ g → w'.heap[k]? = w.heap[k]?) :
    OwnO w' base ⟨A, c, l1 ++ q' :: l2, Y, yc, ys⟩ := by
  obtain ⟨⟨hrow, hrw, hpw⟩, hy⟩ := h
  simp only at hrow hrw hpw hy
  have hq := hrw q (by simp)
  unfold PwSs at hpw
  obtain ⟨p1, p2, p3⟩ := List.pairwise_append.1 hpw
  obtain ⟨p4, p5⟩ := List.pairwise_cons.1 p2
  have happ : ∀ x, RwS w base x → (ApS x q ∨ ApS q x) → RwS w' base x := by
    rintro x hx ha
    refine ⟨hx.1.keep fun k hb => hk k ?_, hx.2.keep fun k hb => hk k ?_⟩
    · rintro rfl
      rcases hg with hg | hg
      · rcases ha with ha | ha
        · exact ha.1 _ hb hg
        · exact ha.1 _ hg hb
      · exact apartT hx.1 hq.2 (by decide) _ hb hg
    · rintro rfl
      rcases hg with hg | hg
      · exact apartT hx.2 hq.1 (by decide) _ hb hg
      · rcases ha with ha | ha
        · exact ha.2 _ hb hg
        · exact ha.2 _ hg hb
  have hap : ∀ x, (ApS x q' ↔ ApS x q) ∧ (ApS q' x ↔ ApS q x) := fun x => by
    unfold ApS
    rw [h1, h2, h3, h4]
    exact ⟨Iff.rfl, Iff.rfl⟩
  refine ⟨⟨?_, ?_, ?_⟩, ?_⟩
  · have e1 : cellsOf secC (l1 ++ q' :: l2) = cellsOf secC (l1 ++ q :: l2) := by simp [cellsOf, hs]
    have e2 : (l1 ++ q' :: l2).length = (l1 ++ q :: l2).length := by simp
    show Row w' base _ 6 A (l1 ++ q' :: l2).length c (cellsOf secC (l1 ++ q' :: l2))
    rw [e1, e2]
    refine hrow.keep fun k hb => hk k ?_
    rintro rfl
    rcases hg with hg | hg
    · exact apartT hrow hq.1 (by decide) _ hb hg
    · exact apartT hrow hq.2 (by decide) _ hb hg
  · intro x hx
    rcases List.mem_append.1 hx with hx | hx
    · exact happ x (hrw x (by simp [hx])) (.inl (p3 x hx q (List.mem_cons_self ..)))
    · rcases List.mem_cons.1 hx with rfl | hx
      · exact hq'
      · exact happ x (hrw x (by simp [hx])) (.inr (p4 x hx))
  · show (l1 ++ q' :: l2).Pairwise ApS
    refine List.pairwise_append.2 ⟨p1, List.pairwise_cons.2 ⟨fun x hx => (hap x).2.2 (p4 x hx), p5⟩, fun a ha b hb => ?_⟩
    rcases List.mem_cons.1 hb with rfl | hb
    · exact (hap a).1.2 (p3 a ha q (List.mem_cons_self ..))
    · exact p3 a ha b (List.mem_cons_of_mem _ hb)
  · show Row w' base _ 4 Y ys.length yc _
    refine hy.keep fun k hb => hk k ?_
    rintro rfl
    rcases hg with hg | hg
    · exact apartT hy hq.1 (by decide) _ hb hg
    · exact apartT hy hq.2 (by decide) _ hb hg
/-- The block of a section's row is none of another type's box. -/
theorem setInts8 (l : List Int) (j : Nat) (x : Int) : (ints .u8 l).set j (.int .u8 x) = ints .u8 (l.set j x) := by simp [ints, List.map_set]
theorem OwnO.storeB {w : World} {base c yc : Nat} {A Y : Option Addr} {l1 l2 : List SV} {q : SV} {ys : List YD} (h : OwnO w base ⟨A, c, l1 ++ q :: l2, Y, yc, ys⟩) {g : Nat} (hA : q.A = some ⟨g, 0, none⟩) (i : Nat) (hi : i < q.zs.length) (x : Int) :
    OwnO (w.setCell ⟨g, i, none⟩ (.int .u8 x)) base ⟨A, c, l1 ++ { q with zs := q.zs.set i x } :: l2, Y, yc, ys⟩ := by
  have hq : RwS w base q := h.1.2.1 q (by simp)
  obtain ⟨g', hA', _, _, hb, hown⟩ := own_of hq.1 (by omega)
  rw [hA] at hA'
  simp only [Option.some.injEq, Addr.mk.injEq, and_true] at hA'
  subst hA'
  refine OwnO.swap h { q with zs := q.zs.set i x } (by simp [secC]) rfl rfl rfl rfl ⟨?_, ?_⟩ g (.inl hb) (fun k hk => Below.heap_setCell _ _ _ k hk)
  · refine .inr ?_
    show (w.setCell _ _).ownsRow base _ 1 (.slice q.A (q.zs.set i x).length q.c) (q.zs.set i x).length (ints .u8 (q.zs.set i x))
    rw [List.length_set, ← setInts8, hA]
    exact (hown.stored i _).1
  · exact hq.2.set (a := ⟨g, i, none⟩) (fun k hk e => apartT hq.2 hq.1 (by decide) k hk (by rw [hb, e])) _
theorem setFix (l : List FD) (j : Nat) (z : FD) (hz : l[j]? = some z) (x : Int) : (cellsOf fixupC l).set (j * 4 + 2) (.int .i64 x) = cellsOf fixupC (l.set j (z.1, z.2.1, x, z.2.2.2)) := by
  induction l generalizing j with
  | nil => cases hz
  | cons a l ih =>
    have hc : ∀ u (l : List FD), cellsOf fixupC (u :: l) = fixupC u ++ cellsOf fixupC l := fun u l => by simp [cellsOf]
    cases j with
    | zero =>
      simp only [List.getElem?_cons_zero, Option.some.injEq] at hz
      subst hz
      simp [hc, fixupC]
    | succ j =>
      have e : (j + 1) * 4 + 2 = (fixupC a).length + (j * 4 + 2) := by rw [fixupC_len]; omega
      rw [hc, List.set_cons_succ, hc, e, List.set_append_right _ _ (by omega), Nat.add_sub_cancel_left]
      rw [ih j (by simpa using hz)]
theorem OwnO.storeF {w : World} {base c yc : Nat} {A Y : Option Addr} {l1 l2 : List SV} {q : SV} {ys : List YD} (h : OwnO w base ⟨A, c, l1 ++ q :: l2, Y, yc, ys⟩) {g : Nat} (hF : q.F = some ⟨g, 0, none⟩) (i : Nat) (z : FD) (hz : q.fs[i]? = some z) (x : Int) :
    OwnO (w.setCell ⟨g, i * 4 + 2, none⟩ (.int .i64 x)) base ⟨A, c, l1 ++ { q with fs := q.fs.set i (z.1, z.2.1, x, z.2.2.2) } :: l2, Y, yc, ys⟩ := by
  have hq : RwS w base q := h.1.2.1 q (by simp)
  have hi : i < q.fs.length := (List.getElem?_eq_some_iff.1 hz).1
  obtain ⟨g', hF', _, _, hb, hown⟩ := own_of hq.2 (by omega)
  rw [hF] at hF'
  simp only [Option.some.injEq, Addr.mk.injEq, and_true] at hF'
  subst hF'
  refine OwnO.swap h { q with fs := q.fs.set i (z.1, z.2.1, x, z.2.2.2) } (by simp [secC]) rfl rfl rfl rfl ⟨?_, ?_⟩ g (.inr hb) (fun k hk => Below.heap_setCell _ _ _ k hk)
  · exact hq.1.set (a := ⟨g, i * 4 + 2, none⟩) (fun k hk e => apartT hq.1 hq.2 (by decide) k hk (by rw [hb, e])) _
  · refine .inr ?_
    show (w.setCell _ _).ownsRow base _ 4 (.slice q.F (q.fs.set i (z.1, z.2.1, x, z.2.2.2)).length q.fc) (q.fs.set i (z.1, z.2.1, x, z.2.2.2)).length (cellsOf fixupC (q.fs.set i (z.1, z.2.1, x, z.2.2.2)))
    rw [List.length_set, ← setFix _ _ _ hz, hF]
    exact (hown.stored (i * 4 + 2) _).1
theorem setSym (l : List YD) (j : Nat) (hj : j < l.length) (z : YD) : ((((cellsOf symbolC l).set (j * 4) (.string z.1)).set (j * 4 + 1) (.int .i64 z.2.1)).set (j * 4 + 2) (.int .i64 z.2.2.1)).set (j * 4 + 3) (.int .i64 z.2.2.2) = cellsOf symbolC (l.set j z) := by
  induction l generalizing j with
  | nil => cases hj
  | cons a l ih =>
    have hc : ∀ u (l : List YD), cellsOf symbolC (u :: l) = symbolC u ++ cellsOf symbolC l := fun u l => by simp [cellsOf]
    cases j with
    | zero => simp [hc, symbolC]
    | succ j =>
      have e : ∀ m, (j + 1) * 4 + m = (symbolC a).length + (j * 4 + m) := fun m => by rw [symbolC_len]; omega
      have e0 : (j + 1) * 4 = (symbolC a).length + (j * 4) := by rw [symbolC_len]; omega
      rw [hc, List.set_cons_succ, hc, e, e, e, e0, List.set_append_right _ _ (by omega), Nat.add_sub_cancel_left, List.set_append_right _ _ (by omega), Nat.add_sub_cancel_left, List.set_append_right _ _ (by omega), Nat.add_sub_cancel_left, List.set_append_right _ _ (by omega), Nat.add_sub_cancel_left]
      rw [ih j (by simpa using hj)]
/-- A symbol put in place. -/
def putY (w : World) (g i : Nat) (z : YD) : World := (((w.setCell ⟨g, i, none⟩ (.string z.1)).setCell ⟨g, i + 1, none⟩ (.int .i64 z.2.1)).setCell ⟨g, i + 2, none⟩ (.int .i64 z.2.2.1)).setCell ⟨g, i + 3, none⟩ (.int .i64 z.2.2.2)
theorem putY_block (w : World) (g i : Nat) (z : YD) (k : Nat) (hk : k ≠ g) : (putY w g i z).heap[k]? = w.heap[k]? := by
  unfold putY
  rw [Below.heap_setCell _ _ _ k hk, Below.heap_setCell _ _ _ k hk, Below.heap_setCell _ _ _ k hk, Below.heap_setCell _ _ _ k hk]
theorem putY_below {B : Nat} {a w : World} {g i : Nat} {z : YD} (h : Below B a w) (hg : B ≤ g) : Below B a (putY w g i z) :=
  (((h.setCell (p := ⟨g, i, none⟩) hg _).setCell (p := ⟨g, i + 1, none⟩) hg _).setCell (p := ⟨g, i + 2, none⟩) hg _).setCell (p := ⟨g, i + 3, none⟩) hg _
theorem OwnO.storeY {w : World} {base c yc : Nat} {A : Option Addr} {ps : List SV} {g : Nat} {ys : List YD} (h : OwnO w base ⟨A, c, ps, some ⟨g, 0, none⟩, yc, ys⟩) (i : Nat) (hi : i < ys.length) (z : YD) :
    OwnO (putY w g (i * 4) z) base ⟨A, c, ps, some ⟨g, 0, none⟩, yc, ys.set i z⟩ := by
  obtain ⟨⟨hrow, hrw, hpw⟩, hy⟩ := h
  simp only at hrow hrw hpw hy
  obtain ⟨g', hA', _, _, hb, hown⟩ := own_of hy (by omega)
  simp only [Option.some.injEq, Addr.mk.injEq, and_true] at hA'
  subst hA'
  have hkeep := putY_block w g (i * 4) z
  refine ⟨⟨hrow.keep fun k hk => hkeep k ?_, fun p hp => ⟨(hrw p hp).1.keep fun k hk => hkeep k ?_, (hrw p hp).2.keep fun k hk => hkeep k ?_⟩, hpw⟩, ?_⟩
  · rintro rfl
    exact apartT hrow hy (by decide) _ hk hb
  · rintro rfl
    exact apartT (hrw p hp).1 hy (by decide) _ hk hb
  · rintro rfl
    exact apartT (hrw p hp).2 hy (by decide) _ hk hb
  · refine .inr ?_
    show (putY w g (i * 4) z).ownsRow base _ 4 (.slice (some ⟨g, 0, none⟩) (ys.set i z).length yc) (ys.set i z).length (cellsOf symbolC (ys.set i z))
    rw [List.length_set, ← setSym _ _ hi]
    exact ((((hown.stored (i * 4) _).1.stored (i * 4 + 1) _).1.stored (i * 4 + 2) _).1.stored (i * 4 + 3) _).1
/-- A box of another type than the rows' stays when the object is stored into. -/
theorem cell_own {w : World} {base : Nat} {e : TypeId} {size n c : Nat} {g : Nat} {xs : List Value} (h : w.ownsRow base e size (.slice (some ⟨g, 0, none⟩) n c) n xs) : ∃ cs, Box w g e cs := box_of_own h
end Go.Proofs.Ytmglgjchemecjaa.BStore
/- Contracts of the laws' helpers on []int: the copy, the comparison, the marks. -/
namespace Go.Proofs.Ytmglgjchemecjaa.CInts
set_option maxRecDepth 200000
open Go.ChangeShapes Go.WideShapes Go.ChangeAt Go.RowKit Kit
theorem info64 : (Try.prog.info? 3).map (fun i => (i.zero, i.size, i.bytes)) = some (some (.int .i64 0), 1, 8) := by kernel_rfl
def marks (k0 : Int) (n : Nat) : List Int := (List.range n).map fun (i : Nat) => k0 + (i : Int)
theorem marks_len (k0 : Int) (n : Nat) : (marks k0 n).length = n := by simp [marks]
theorem marks_at (k0 : Int) (n i : Nat) (h : i < n) : (marks k0 n)[i]'(by rw [marks_len]; exact h) = (k0 + i) := by simp [marks]
theorem marks_set (k0 : Int) (n i : Nat) (xs : List Int) (h : i < xs.length) (hn : xs.length = n) : (marks k0 i ++ xs.drop i).set i ((k0 + i)) = marks k0 (i + 1) ++ xs.drop (i + 1) := by
  rw [List.set_append_right _ _ (by rw [marks_len]; exact Nat.le_refl _), marks_len, Nat.sub_self, List.drop_eq_getElem_cons h, List.set_cons_zero]
  simp [marks, List.range_succ]
end Go.Proofs.Ytmglgjchemecjaa.CInts
/- Lists of objects, and rows of rows of numbers, in memory. -/
namespace Go.Proofs.Ytmglgjchemecjaa.BList
set_option maxRecDepth 200000
open Go.ChangeShapes Go.WideShapes Go.ChangeAt Go.RowKit Kit CFixups CSymbols PObj BObj CMarkRows BStore CObjValid
def objC (o : OV) : List Value := [.slice o.A o.ps.length o.c, .slice o.Y o.ys.length o.yc]
theorem objC_len (o : OV) : (objC o).length = 2 := rfl
def RdOs (w : World) (B : Nat) (A : Option Addr) (os : List OV) : Prop := Rd w B A (cellsOf objC os) ∧ ∀ o ∈ os, RdO w B o
/-- A row of numbers as a value. -/
structure RV where
  A : Option Addr
  c : Nat
  zs : List Int
def rowC (p : RV) : List Value := [.slice p.A p.zs.length p.c]
theorem rowC_len (p : RV) : (rowC p).length = 1 := rfl
def RdRs (w : World) (B : Nat) (A : Option Addr) (rs : List RV) : Prop := Rd w B A (cellsOf rowC rs) ∧ ∀ r ∈ rs, Rd w B r.A (ints .i64 r.zs)
def RwR (w : World) (base : Nat) (p : RV) : Prop := Row w base 3 1 p.A p.zs.length p.c (ints .i64 p.zs)
def RwRs (w : World) (base : Nat) (rs : List RV) : Prop := ∀ p ∈ rs, RwR w base p
def PwRs (rs : List RV) : Prop := rs.Pairwise fun p q => Apart p.A p.c q.A q.c
def OwnRs (w : World) (base : Nat) (A : Option Addr) (c : Nat) (rs : List RV) : Prop := Row w base 59 1 A rs.length c (cellsOf rowC rs) ∧ RwRs w base rs ∧ PwRs rs
section
variable {w w' : World} {B B' base : Nat} {A : Option Addr} {c : Nat} {os : List OV} {rs : List RV} {p : RV}
theorem RdOs.below (h : RdOs w B A os) (hb : Below B w w') : RdOs w' B A os := ⟨h.1.below hb, fun o ho => (h.2 o ho).below hb⟩
theorem RdOs.more (h : RdOs w B A os) (hB : B ≤ B') : RdOs w B' A os := ⟨h.1.more hB, fun o ho => (h.2 o ho).more hB⟩
theorem RdRs.below (h : RdRs w B A rs) (hb : Below B w w') : RdRs w' B A rs := ⟨h.1.below hb, fun o ho => (h.2 o ho).below hb⟩
theorem RdRs.more (h : RdRs w B A rs) (hB : B ≤ B') : RdRs w B' A rs := ⟨h.1.more hB, fun o ho => (h.2 o ho).more hB⟩
theorem OwnRs.rd (h : OwnRs w base A c rs) : RdRs w w.heap.size A rs := ⟨h.1.rd, fun p hp => (h.2.1 p hp).rd⟩
end
theorem rows_set (rs : List RV) (k : Nat) (hk : k < rs.length) (q : RV) (hq : rowC q = rowC rs[k]) : cellsOf rowC (rs.set k q) = cellsOf rowC rs := by
  have e : rs = rs.take k ++ rs[k] :: rs.drop (k + 1) := by rw [← List.drop_eq_getElem_cons hk, List.take_append_drop]
  rw [List.set_eq_take_append_cons_drop, if_pos hk]
  conv => rhs; rw [e]
  simp only [cellsOf, List.flatMap_append, List.flatMap_cons, hq]
theorem setInts64 (l : List Int) (j : Nat) (x : Int) : (ints .i64 l).set j (.int .i64 x) = ints .i64 (l.set j x) := by simp [ints, List.map_set]
/-- A number of a row of one's own is put. -/
theorem OwnRs.put {w : World} {base : Nat} {A : Option Addr} {c : Nat} {rs : List RV} (h : OwnRs w base A c rs) {k : Nat} (hk : k < rs.length) {i : Nat} (hi : i < rs[k].zs.length) (v : Int) :
    ∃ g, rs[k].A = some ⟨g, 0, none⟩ ∧ base ≤ g ∧ g < w.heap.size ∧ blk rs[k].A rs[k].c = some g ∧ (∃ cs, Box w g 3 cs) ∧ (w.frozen? ⟨g, i, none⟩ = false) ∧ (∃ u, w.cell? ⟨g, i, none⟩ = some (.int .i64 u)) ∧ OwnRs (w.setCell ⟨g, i, none⟩ (.int .i64 v)) base A c (rs.set k { rs[k] with zs := rs[k].zs.set i v }) := by
  obtain ⟨hrow, hrw, hpw⟩ := h
  have hq := hrw rs[k] (List.getElem_mem hk)
  obtain ⟨g, hA, hb1, hb2, hb, hown⟩ := own_of hq (by omega)
  have hcell := World.ownsRow.cellAt hown i (by simpa using hi)
  refine ⟨g, hA, hb1, hb2, hb, cell_own hown, World.ownsRow.frozenAt hown i, ⟨rs[k].zs[i], ?_⟩, ?_, ?_, ?_⟩
  · rw [hcell]
    simp [ints]
  · rw [rows_set rs k hk _ (by simp [rowC]), List.length_set]
    exact hrow.set (a := ⟨g, i, none⟩) (fun j hj e => apartT hrow hq (by decide) j hj (by rw [hb, e])) _
  · intro p hp
    obtain ⟨j, hj, rfl⟩ := List.getElem_of_mem hp
    rw [List.length_set] at hj
    rw [List.getElem_set]
    by_cases hjk : k = j
    · subst hjk
      rw [if_pos rfl]
      refine .inr ?_
      show (w.setCell _ _).ownsRow base _ 1 (.slice rs[k].A (rs[k].zs.set i v).length rs[k].c) (rs[k].zs.set i v).length (ints .i64 (rs[k].zs.set i v))
      rw [List.length_set, ← setInts64, hA]
      exact (hown.stored i _).1
    · rw [if_neg hjk]
      refine (hrw rs[j] (List.getElem_mem hj)).set (a := ⟨g, i, none⟩) (fun m hm e => ?_) _
      have e' : m = g := e
      rw [PwRs, List.pairwise_iff_getElem] at hpw
      subst e'
      rcases Nat.lt_or_gt_of_ne hjk with hlt | hgt
      · exact hpw k j hk hj hlt _ hb hm
      · exact hpw j k hj hk hgt _ hm hb
  · rw [PwRs, List.pairwise_iff_getElem] at hpw ⊢
    intro a b ha hb hab
    rw [List.length_set] at ha hb
    have key : ∀ m (hm : m < rs.length) (hm' : m < (rs.set k { rs[k] with zs := rs[k].zs.set i v }).length), ((rs.set k { rs[k] with zs := rs[k].zs.set i v })[m]).A = rs[m].A ∧ ((rs.set k { rs[k] with zs := rs[k].zs.set i v })[m]).c = rs[m].c := by
      intro m hm hm'
      rw [List.getElem_set]
      by_cases hkm : k = m
      · subst hkm
        rw [if_pos rfl]
        exact ⟨rfl, rfl⟩
      · rw [if_neg hkm]
        exact ⟨rfl, rfl⟩
    rw [(key a ha _).1, (key a ha _).2, (key b hb _).1, (key b hb _).2]
    exact hpw a b ha hb hab
/-- A row is put behind the last: it is there already, and newer than the others. -/
theorem OwnRs.snoc {w w' : World} {base : Nat} {A : Option Addr} {c : Nat} {rs : List RV} {N : Nat} (h : OwnRs w base A c rs) {q : RV} (hq : RwR w base q) (hold : ∀ p ∈ rs, ∀ k, blk p.A p.c = some k → k < N) (hnew : ∀ k, blk q.A q.c = some k → N ≤ k)
    {A' : Option Addr} {n' c' : Nat} (hn : n' = rs.length + 1) (row : Row w' base 59 1 A' n' c' (cellsOf rowC rs ++ rowC q)) (g : w.grownBy w' (blk A c)) : OwnRs w' base A' c' (rs ++ [q]) := by
  subst hn
  have hS : ∀ p, RwR w base p → RwR w' base p := fun p hp => hp.grown g (fun k hk => apartT hp h.1 (by decide) k hk)
  refine ⟨?_, ?_, ?_⟩
  · rw [List.length_append, show cellsOf rowC (rs ++ [q]) = cellsOf rowC rs ++ rowC q by simp [cellsOf]]
    exact row
  · intro p hp
    rcases List.mem_append.1 hp with hp | hp
    · exact hS p (h.2.1 p hp)
    · have e := List.mem_singleton.1 hp
      subst e
      exact hS _ hq
  · refine List.pairwise_append.2 ⟨h.2.2, List.pairwise_singleton _ _, fun a ha b hb => ?_⟩
    have e := List.mem_singleton.1 hb
    subst e
    intro k hk hk'
    have e1 := hold a ha k hk
    have e2 := hnew k hk'
    omega
theorem OwnRs.keep {w w' : World} {base : Nat} {A : Option Addr} {c : Nat} {rs : List RV} (h : OwnRs w base A c rs) (hk : ∀ k, base ≤ k → k < w.heap.size → (blk A c = some k ∨ ∃ p ∈ rs, blk p.A p.c = some k) → w'.heap[k]? = w.heap[k]?) : OwnRs w' base A c rs :=
  ⟨h.1.keep fun k hb => hk k (h.1.lt k hb).1 (h.1.lt k hb).2 (.inl hb), fun p hp => (h.2.1 p hp).keep fun k hb => hk k ((h.2.1 p hp).lt k hb).1 ((h.2.1 p hp).lt k hb).2 (.inr ⟨p, hp, hb⟩), h.2.2⟩
theorem OwnRs.call {w w' : World} {base : Nat} {A : Option Addr} {c : Nat} {rs : List RV} (h : OwnRs w base A c rs) (hb : Below w.heap.size w w') : OwnRs w' base A c rs := h.keep fun k _ hk _ => hb.block k hk
/-- A cell of a box of another type is put. -/
theorem OwnRs.set {w : World} {base : Nat} {A : Option Addr} {c : Nat} {rs : List RV} (h : OwnRs w base A c rs) {X : Nat} {t : TypeId} {cs : Array Value} (hb : Box w X t cs) (h1 : 59 ≠ t) (h2 : 3 ≠ t) (i : Nat) (u : Value) : OwnRs (w.setCell ⟨X, i, none⟩ u) base A c rs :=
  h.keep fun k _ _ hk => Below.heap_setCell w ⟨X, i, none⟩ u k (by
    rcases hk with hk | ⟨p, hp, hk⟩
    · exact h.1.box hb h1 k hk
    · exact (h.2.1 p hp).box hb h2 k hk)
theorem OwnRs.lt {w : World} {base : Nat} {A : Option Addr} {c : Nat} {rs : List RV} (h : OwnRs w base A c rs) : ∀ p ∈ rs, ∀ k, blk p.A p.c = some k → k < w.heap.size := fun p hp k hk => ((h.2.1 p hp).lt k hk).2
/-- The object at a place of a list: its two cells, and what it holds. -/
theorem RdOs.at {w : World} {B : Nat} {A : Option Addr} {os : List OV} (h : RdOs w B A os) {k : Nat} (hk : k < os.length) :
    ∃ b off, A = some ⟨b, off, none⟩ ∧ b < B ∧ w.cell? ⟨b, off + k * 2, none⟩ = some (.slice os[k].A os[k].ps.length os[k].c) ∧ w.cell? ⟨b, off + k * 2 + 1, none⟩ = some (.slice os[k].Y os[k].ys.length os[k].yc) := by
  obtain ⟨b, off, hA, hb, hc⟩ := h.1.row objC_len (by decide) hk
  exact ⟨b, off, hA, hb, by simpa using hc 0 _ rfl, hc 1 _ rfl⟩
theorem RdRs.at {w : World} {B : Nat} {A : Option Addr} {rs : List RV} (h : RdRs w B A rs) {k : Nat} (hk : k < rs.length) :
    ∃ b off, A = some ⟨b, off, none⟩ ∧ b < B ∧ w.cell? ⟨b, off + k, none⟩ = some (.slice rs[k].A rs[k].zs.length rs[k].c) := by
  obtain ⟨b, off, hA, hb, hc⟩ := h.1.row rowC_len (by decide) hk
  exact ⟨b, off, hA, hb, by simpa using hc 0 _ rfl⟩
/-- Two cells of a block put. -/
theorem two_below {B : Nat} {a w : World} {Y : Nat} (h : Below B a w) (hY : B ≤ Y) (u v : Value) : Below B a ((w.setCell ⟨Y, 0, none⟩ u).setCell ⟨Y, 1, none⟩ v) :=
  (h.setCell (p := ⟨Y, 0, none⟩) hY u).setCell (p := ⟨Y, 1, none⟩) hY v
/-- What the walks ask of a list of objects. -/
structure Fits (os : List OV) : Prop where
  n : os.length ≤ 1048576
  o : ∀ o ∈ os, Fit o
end Go.Proofs.Ytmglgjchemecjaa.BList
/- sorted: names by their bytes, each once. -/
namespace Go.Proofs.Ytmglgjchemecjaa.CSorted
set_option maxRecDepth 200000
open Go.ChangeShapes Go.WideShapes Go.ChangeAt Go.RowKit Kit CFixups CSymbols PObj BObj CMarkRows BStore
def nmC (xs : List ByteArray) : List Value := xs.map Value.string
def bytesOf (xs : List ByteArray) : List (List UInt8) := xs.map (·.data.toList)
def sortB (xs : List ByteArray) : List (List UInt8) := Lib.compact ((bytesOf xs).mergeSort fun x y => decide (x ≤ y))
def srtN (xs : List ByteArray) : List ByteArray := (sortB xs).map fun l => ⟨l.toArray⟩
theorem enc_strs (ls : List (List UInt8)) : ls.map encStr = nmC (ls.map fun l => ⟨l.toArray⟩) := by
  unfold nmC
  rw [List.map_map]
  rfl
theorem strs_enc (xs : List ByteArray) : nmC xs = (bytesOf xs).map encStr := (Lib.map_encStr xs).symm
theorem srtN_nil : srtN [] = [] := by
  simp [srtN, sortB, bytesOf, Lib.compact, Lib.compactUpTo]
theorem srtN_pos (xs : List ByteArray) : 0 < (srtN xs).length ↔ 0 < xs.length := by
  constructor
  · intro h
    rcases xs with _ | ⟨x, xs⟩
    · rw [srtN_nil] at h
      exact h
    · simp
  · intro h
    have hm : ((bytesOf xs).mergeSort fun x y => decide (x ≤ y)).length = xs.length := by rw [List.length_mergeSort]; simp [bytesOf]
    unfold srtN sortB Lib.compact Lib.compactUpTo
    rw [List.length_map, List.length_map, List.length_pos_iff_exists_mem]
    exact ⟨0, List.mem_filter.2 ⟨List.mem_range.2 (by rw [hm]; exact h), by simpa using Lib.keeps_lt_one _ 0 (by omega)⟩⟩
theorem below_grow (w : World) (os : Array Obj) : Below w.heap.size w (Sort.grow w os) := ⟨rfl, rfl, rfl, by simp, fun _ hk => Sort.heap_grow_old w os hk⟩
/-- A row of names handed back. -/
def RetN (xs : List ByteArray) (w : World) (e : Ending) (w' : World) : Prop := ∃ A c, e = .returned (.slice A xs.length c) ∧ Row w' w.heap.size 9 1 A xs.length c (nmC xs) ∧ Below w.heap.size w w'
theorem of_owns {w : World} {base n : Nat} {v : Value} {xs : List Value} (h : w.ownsRow base 9 1 v n xs) : ∃ A c, v = .slice A n c ∧ Row w base 9 1 A n c xs := by
  rcases h.2 with ⟨rfl, rfl⟩ | ⟨g, cap, cur, rfl, _⟩
  · exact ⟨none, 0, rfl, .inr h⟩
  · exact ⟨_, cap, rfl, .inr h⟩
theorem cloneN_any (xs : List ByteArray) (A : Option Addr) (c : Nat) (base : Nat) (w : World) (h : Row w base 9 1 A xs.length c (nmC xs)) (hm : xs.length ≤ 1048576) :
    Calls Try.prog 154 #[.slice A xs.length c] w (RetN xs w) := by
  by_cases h0 : xs.length = 0
  · obtain rfl := List.eq_nil_of_length_eq_zero h0
    cases A with
    | none =>
      refine (XNames.slices_Clone_string_nil 0 c w).mono ?_
      rintro e w' ⟨rfl, rfl⟩
      exact ⟨none, 0, rfl, Row.empty _ _ _ _ _, Below.refl _ _⟩
    | some a =>
      refine (XNames.slices_Clone_string_zero a c w).mono ?_
      rintro e w' ⟨v, rfl, ho, _, hb⟩
      obtain ⟨A', c', rfl, hr⟩ := of_owns ho
      exact ⟨A', c', rfl, hr, hb⟩
  · obtain ⟨g, rfl, _, _, _, hown⟩ := own_of h (by omega)
    refine (XNames.slices_Clone_string g 0 xs.length c xs w (Nat.le_refl _) (by omega) (fun j hj => ?_)).mono ?_
    · have h1 := World.ownsRow.cellAt hown j (by simpa [nmC] using hj)
      rw [Nat.zero_add, h1]
      simp [nmC, List.getD_eq_getElem?_getD, List.getElem?_eq_getElem hj]
    · rintro e w' ⟨v, rfl, ho, _, hb⟩
      rw [List.take_length] at ho
      obtain ⟨A', c', rfl, hr⟩ := of_owns ho
      exact ⟨A', c', rfl, hr, hb⟩
set_option maxHeartbeats 1000000 in
theorem sorted_any (xs : List ByteArray) (A : Option Addr) (c : Nat) (base : Nat) (w : World) (h : Row w base 9 1 A xs.length c (nmC xs)) (hm : xs.length ≤ 1048576) :
    Calls Try.prog 94 #[.slice A xs.length c] w (RetN (srtN xs) w) := by
  have HQ := hide (cloneN_any xs A c base w h hm)
  clear h
  go_enter Try.func94, Try.ntmps94
  go_wp2_with fail
  refine HQ.out.mono ?_
  rintro e w1 ⟨A1, c1, rfl, r1, b1⟩
  have HR := hide r1
  have HB := hide b1
  clear r1 b1 HQ
  go_wp2_with fail
  have HS : Calls Try.prog 155 #[.slice A1 xs.length c1] w1 fun e w' => e = .returned (.tuple #[]) ∧ Row w' w.heap.size 9 1 A1 xs.length c1 (((bytesOf xs).mergeSort fun x y => decide (x ≤ y)).map encStr) ∧ Below w.heap.size w w' := by
    by_cases h0 : xs.length = 0
    · obtain rfl := List.eq_nil_of_length_eq_zero h0
      refine (XNames.slices_Sort_string_none A1 c1 w1).mono ?_
      rintro e w' ⟨rfl, rfl⟩
      exact ⟨rfl, by simpa [nmC, bytesOf] using HR.out, HB.out⟩
    · obtain ⟨g, rfl, hb1, hb2, _, hown⟩ := own_of HR.out (by omega)
      rw [strs_enc] at hown
      obtain ⟨g', cap, hv, _, _, _, _, hl, hH⟩ := Lib.holds_of_ownsRow hown (by intro e; cases e)
      injection hv with e1 _ e3
      simp only [Option.some.injEq, Addr.mk.injEq, and_true] at e1
      subst e1 e3
      have hl' : (bytesOf xs).length = xs.length := by simp [bytesOf]
      have hC := XNames.slices_Sort_string g 0 c1 (bytesOf xs) w1 hH hb2 (by rw [hl']; omega)
      rw [hl'] at hC
      refine hC.mono ?_
      rintro e w' ⟨rfl, q, os, rfl⟩
      have hlen : ((bytesOf xs).mergeSort fun x y => decide (x ≤ y)).length = xs.length := by rw [List.length_mergeSort, hl']
      have ho := Lib.ownsRow_putRow (q := q) (k := xs.length) hown hlen (Nat.le_refl _)
      rw [List.take_of_length_le (by omega)] at ho
      exact ⟨rfl, .inr (own_call (below_grow _ os) ho), (Lib.below_putRow HB.out hb1).trans ((below_grow _ os).mono (Lib.below_putRow HB.out hb1).size)⟩
  refine HS.mono ?_
  rintro e w2 ⟨rfl, r2, b2⟩
  have HR2 := hide r2
  have HB2 := hide b2
  clear r2 b2 HS HR HB
  go_wp2_with fail
  have HC : Calls Try.prog 156 #[.slice A1 xs.length c1] w2 fun e w' => ∃ c', e = .returned (.slice A1 (srtN xs).length c') ∧ Row w' w.heap.size 9 1 A1 (srtN xs).length c' (nmC (srtN xs)) ∧ Below w.heap.size w w' := by
    have hlen : ((bytesOf xs).mergeSort fun x y => decide (x ≤ y)).length = xs.length := by rw [List.length_mergeSort]; simp [bytesOf]
    by_cases h0 : xs.length = 0
    · obtain rfl := List.eq_nil_of_length_eq_zero h0
      refine (XNames.slices_Compact_string_empty A1 c1 w2).mono ?_
      rintro e w' ⟨rfl, rfl⟩
      rw [srtN_nil]
      exact ⟨c1, rfl, by simpa [nmC, bytesOf] using HR2.out, HB2.out⟩
    · obtain ⟨g, rfl, hb1, hb2, _, hown⟩ := own_of HR2.out (by omega)
      have hcap := HR2.out.cap.1
      generalize hM : ((bytesOf xs).mergeSort fun x y => decide (x ≤ y)) = M at *
      have hsr : srtN xs = (Lib.compact M).map fun l => ⟨l.toArray⟩ := by unfold srtN sortB; rw [hM]
      obtain ⟨g', cap, hv, _, _, _, _, hl, hH⟩ := Lib.holds_of_ownsRow hown (by intro e; cases e)
      injection hv with e1 _ e3
      simp only [Option.some.injEq, Addr.mk.injEq, and_true] at e1
      subst e1 e3
      have hle := Lib.compact_length_le M
      have hC := XNames.slices_Compact_string g 0 c1 M w2 hH (by omega) (by omega)
      rw [hlen] at hC
      refine hC.mono ?_
      rintro e w' ⟨rfl, q, rfl⟩
      have ho := Lib.ownsRow_putRow (q := q) (k := (Lib.compact M).length) (ys := Lib.compact M ++ List.replicate (xs.length - (Lib.compact M).length) []) hown (by simp; omega) (by omega)
      rw [List.take_left] at ho
      refine ⟨c1, by rw [hsr, List.length_map], ?_, Lib.below_putRow HB2.out hb1⟩
      rw [hsr, ← enc_strs, List.length_map]
      exact .inr ho
  refine HC.mono ?_
  rintro e w3 ⟨c3, rfl, r3, b3⟩
  have HB3 := hide b3
  have hl : (srtN xs).length ≤ 1048576 := by
    have h1 := Lib.compact_length_le ((bytesOf xs).mergeSort fun x y => decide (x ≤ y))
    rw [List.length_mergeSort] at h1
    have h2 : (bytesOf xs).length = xs.length := by simp [bytesOf]
    have h3 : (srtN xs).length = (sortB xs).length := by simp [srtN]
    unfold sortB at h3
    omega
  have HQ := hide (cloneN_any (srtN xs) A1 c3 _ w3 r3 hl)
  clear r3 b3 HC HR2 HB2 hl
  generalize srtN xs = ys at *
  go_wp2_with fail
  refine HQ.out.mono ?_
  rintro e w4 ⟨A4, c4, rfl, r4, b4⟩
  have HF := hide (And.intro (r4.down HB3.out.size) (HB3.out.trans (b4.mono HB3.out.size)))
  clear r4 b4 HQ
  go_wp2_with fail
  go_ret
  exact ⟨A4, c4, rfl, HF.out.1, HF.out.2⟩
end Go.Proofs.Ytmglgjchemecjaa.CSorted
/- Whether a fixup uses a symbol: the program's uses. -/
namespace Go.Proofs.Ytmglgjchemecjaa.CUses
set_option maxRecDepth 200000
open Go.ChangeShapes Go.WideShapes Go.ChangeAt Go.RowKit Kit CFixups CSymbols PObj BObj
def useF (j : Int) (f : FD) : Bool := f.2.2.1 == j
def useS (j : Int) (fs : List FD) : Bool := fs.any (useF j)
def used (ss : List SD) (j : Int) : Bool := ss.any fun d => useS j d.fs
theorem predF_any (j : Int) (N : Nat) (z : FD) (w : World) (hN : N < w.heap.size) (hc : w.cell? ⟨N, 0, none⟩ = some (.int .i64 j)) :
    Calls Try.prog 109 #[.agg #[.int .i64 z.1, .int .i64 z.2.1, .int .i64 z.2.2.1, .int .i64 z.2.2.2], .pointer (some ⟨N, 0, none⟩)] w (Ret (.bool (useF j z)) w) := by
  have B0 : Below w.heap.size w (w.alloc (.cells #[.int .i64 z.1, .int .i64 z.2.1, .int .i64 z.2.2.1, .int .i64 z.2.2.2] 77)) := (by repeat (first | exact Below.refl _ _ | with_reducible assumption | (refine Below.drew ?_) | (refine Below.drewN ?_ _) | (refine Below.alloc ?_ (by simp; try omega) _) | (refine Below.setCell ?_ (by simp; try omega) _)))
  have hc1 := (B0.cell (p := ⟨N, 0, none⟩) hN).trans hc
  have HB := hide B0
  clear B0
  unfold useF
  go_enter Try.func109, Try.ntmps109
  go_wp2_with fail
  go_ret
  exact ⟨rfl, HB.out⟩
theorem indexF_any (j : Int) (N : Nat) (A : Option Addr) (ys : List FD) (c : Nat) (w : World) (hr : Rd w w.heap.size A (cellsOf fixupC ys)) (hm : ys.length ≤ maxLen) (hN : N < w.heap.size) (hc : w.cell? ⟨N, 0, none⟩ = some (.int .i64 j)) :
    Calls Try.prog 165 #[.slice A ys.length c, .func (.func 109) #[] #[.pointer (some ⟨N, 0, none⟩)]] w fun e w' => ∃ r : Int, e = .returned (.int .i64 r) ∧ decide (0 ≤ r) = useS j ys ∧ Below w.heap.size w w' := by
  unfold maxLen at hm
  unfold useS
  go_enter Try.func165, Try.ntmps165
  go_wp2
  go_loopw [8] (fun i wr => ∃ k : Nat, k ≤ ys.length ∧ i = .int .i64 k ∧ (ys.take k).any (useF j) = false ∧ Below w.heap.size w wr) (fun i _ => ys.length - (intOf i).toNat)
  case atStart => exact ⟨0, Nat.zero_le _, rfl, rfl, Below.refl _ _⟩
  case round =>
    obtain ⟨k, hk, rfl, hn, hb⟩ := hrel
    have HB := hide hb
    by_cases hlt : k < ys.length
    · obtain ⟨b, off, rfl, hbb, hcc⟩ := (hr.below hb).row fixupC_len (by decide) hlt
      have hc0 := hcc 0 _ rfl
      have hc1 := hcc 1 _ rfl
      have hc2 := hcc 2 _ rfl
      have hc3 := hcc 3 _ rfl
      simp only [Nat.add_zero] at hc0
      have HS := hide (show (ys.take (k + 1)).any (useF j) = useF j ys[k] by rw [take_succ hlt, List.any_append, hn]; simp)
      have HT := hide (show useF j ys[k] = true → ys.any (useF j) = true from fun h => List.any_eq_true.2 ⟨_, List.getElem_mem hlt, h⟩)
      have HP := hide (fun z => predF_any j N z wr (Nat.lt_of_lt_of_le hN hb.size) ((hb.cell (p := ⟨N, 0, none⟩) hN).trans hc))
      clear hr hb hcc hn hc
      generalize ys[k] = z at *
      have hpred := HP.out z
      cases h : useF j z
      · have HS' := hide (HS.out.trans h)
        rw [h] at hpred
        clear HT HS h HP
        go_wp2_with fail
        refine hpred.mono ?_
        rintro e w2 ⟨rfl, b2⟩
        have HB' := hide (HB.out.trans (b2.mono HB.out.size))
        clear b2 hc0 hc1 hc2 hc3
        go_wp2_with fail
        refine ⟨⟨k + 1, by omega, by go_num, HS'.out, HB'.out⟩, by simp [intOf]; omega⟩
      · have HT' := hide (HT.out h)
        rw [h] at hpred
        clear HT HS h HP
        go_wp2_with fail
        refine hpred.mono ?_
        rintro e w2 ⟨rfl, b2⟩
        have HB' := hide (HB.out.trans (b2.mono HB.out.size))
        clear b2 hc0 hc1 hc2 hc3
        go_wp2_with fail
        go_ret
        exact ⟨k, rfl, by rw [HT'.out]; simp, HB'.out⟩
    · have HN := hide (show ys.any (useF j) = false by rw [← hn, List.take_of_length_le (by omega)])
      clear hr hb hn hc
      go_wp2_with fail
      go_ret
      exact ⟨-1, rfl, by rw [HN.out]; rfl, HB.out⟩
theorem containsF_any (j : Int) (N : Nat) (A : Option Addr) (ys : List FD) (c : Nat) (w : World) (hr : Rd w w.heap.size A (cellsOf fixupC ys)) (hm : ys.length ≤ maxLen) (hN : N < w.heap.size) (hc : w.cell? ⟨N, 0, none⟩ = some (.int .i64 j)) :
    Calls Try.prog 108 #[.slice A ys.length c, .func (.func 109) #[] #[.pointer (some ⟨N, 0, none⟩)]] w (Ret (.bool (useS j ys)) w) := by
  have HQ := hide (indexF_any j N A ys c w hr hm hN hc)
  clear hr hm hc
  go_enter Try.func108, Try.ntmps108
  go_wp2_with fail
  refine HQ.out.mono ?_
  rintro e w2 ⟨r, rfl, hr2, b2⟩
  have HR := hide hr2
  have HB := hide b2
  clear hr2 b2
  go_wp2_with fail
  go_ret
  exact ⟨by rw [← HR.out]; rfl, HB.out⟩
theorem predS_any (j : Int) (N : Nat) (p : SV) (w : World) (hr : RdS w w.heap.size p) (hm : p.fs.length ≤ maxLen) (hN : N < w.heap.size) (hc : w.cell? ⟨N, 0, none⟩ = some (.int .i64 j)) :
    Calls Try.prog 107 #[.agg #[.string p.nm, .int .i64 p.kd, .int .i64 p.al, .slice p.A p.zs.length p.c, .int .i64 p.sz, .slice p.F p.fs.length p.fc], .pointer (some ⟨N, 0, none⟩)] w (Ret (.bool (useS j p.fs)) w) := by
  have B0 : Below w.heap.size w (w.alloc (.cells #[.string p.nm, .int .i64 p.kd, .int .i64 p.al, .slice p.A p.zs.length p.c, .int .i64 p.sz, .slice p.F p.fs.length p.fc] 73)) := (by repeat (first | exact Below.refl _ _ | with_reducible assumption | (refine Below.drew ?_) | (refine Below.drewN ?_ _) | (refine Below.alloc ?_ (by simp; try omega) _) | (refine Below.setCell ?_ (by simp; try omega) _)))
  have hc1 := (B0.cell (p := ⟨N, 0, none⟩) hN).trans hc
  have HQ := hide (containsF_any j N p.F p.fs p.fc _ ((hr.2.below B0).more B0.size) hm (Nat.lt_of_lt_of_le hN B0.size) hc1)
  have HB := hide B0
  clear B0 hr hm hc hc1
  go_enter Try.func107, Try.ntmps107
  go_wp2_with fail
  refine HQ.out.mono ?_
  rintro e w2 ⟨rfl, b2⟩
  have HB2 := hide (HB.out.trans (b2.mono HB.out.size))
  clear b2
  go_wp2_with fail
  go_ret
  exact ⟨rfl, HB2.out⟩
theorem indexS_any (j : Int) (N : Nat) (A : Option Addr) (ps : List SV) (c : Nat) (w : World) (hr : RdSs w w.heap.size A ps) (hm : ps.length ≤ maxLen) (hf : ∀ p ∈ ps, p.fs.length ≤ maxLen) (hN : N < w.heap.size) (hc : w.cell? ⟨N, 0, none⟩ = some (.int .i64 j)) :
    Calls Try.prog 164 #[.slice A ps.length c, .func (.func 107) #[] #[.pointer (some ⟨N, 0, none⟩)]] w fun e w' => ∃ r : Int, e = .returned (.int .i64 r) ∧ decide (0 ≤ r) = used (ps.map SV.d) j ∧ Below w.heap.size w w' := by
  unfold maxLen at hm
  have hu : used (ps.map SV.d) j = ps.any (fun p => useS j p.fs) := by
    unfold used
    rw [List.any_map]
    rfl
  rw [hu]
  clear hu
  go_enter Try.func164, Try.ntmps164
  go_wp2
  go_loopw [8] (fun i wr => ∃ k : Nat, k ≤ ps.length ∧ i = .int .i64 k ∧ (ps.take k).any (fun p => useS j p.fs) = false ∧ Below w.heap.size w wr) (fun i _ => ps.length - (intOf i).toNat)
  case atStart => exact ⟨0, Nat.zero_le _, rfl, rfl, Below.refl _ _⟩
  case round =>
    obtain ⟨k, hk, rfl, hn, hb⟩ := hrel
    have HB := hide hb
    by_cases hlt : k < ps.length
    · obtain ⟨b, off, rfl, hbb, hcc⟩ := (hr.1.below hb).row secC_len (by decide) hlt
      have hc0 := hcc 0 _ rfl
      have hc1 := hcc 1 _ rfl
      have hc2 := hcc 2 _ rfl
      have hc3 := hcc 3 _ rfl
      have hc4 := hcc 4 _ rfl
      have hc5 := hcc 5 _ rfl
      simp only [Nat.add_zero] at hc0
      have HS := hide (show (ps.take (k + 1)).any (fun p => useS j p.fs) = useS j ps[k].fs by rw [take_succ hlt, List.any_append, hn]; simp)
      have HT := hide (show useS j ps[k].fs = true → ps.any (fun p => useS j p.fs) = true from fun h => List.any_eq_true.2 ⟨_, List.getElem_mem hlt, h⟩)
      have HP := hide (predS_any j N ps[k] wr (((hr.2 _ (List.getElem_mem hlt)).below hb).more hb.size) (hf _ (List.getElem_mem hlt)) (Nat.lt_of_lt_of_le hN hb.size) ((hb.cell (p := ⟨N, 0, none⟩) hN).trans hc))
      clear hr hb hcc hn hc hf
      generalize ps[k] = z at *
      have hpred := HP.out
      cases h : useS j z.fs
      · have HS' := hide (HS.out.trans h)
        rw [h] at hpred
        clear HT HS h HP
        go_wp2_with fail
        refine hpred.mono ?_
        rintro e w2 ⟨rfl, b2⟩
        have HB' := hide (HB.out.trans (b2.mono HB.out.size))
        clear b2 hc0 hc1 hc2 hc3 hc4 hc5
        go_wp2_with fail
        refine ⟨⟨k + 1, by omega, by go_num, HS'.out, HB'.out⟩, by simp [intOf]; omega⟩
      · have HT' := hide (HT.out h)
        rw [h] at hpred
        clear HT HS h HP
        go_wp2_with fail
        refine hpred.mono ?_
        rintro e w2 ⟨rfl, b2⟩
        have HB' := hide (HB.out.trans (b2.mono HB.out.size))
        clear b2 hc0 hc1 hc2 hc3 hc4 hc5
        go_wp2_with fail
        go_ret
        exact ⟨k, rfl, by rw [HT'.out]; simp, HB'.out⟩
    · have HN := hide (show ps.any (fun p => useS j p.fs) = false by rw [← hn, List.take_of_length_le (by omega)])
      clear hr hb hn hc hf
      go_wp2_with fail
      go_ret
      exact ⟨-1, rfl, by rw [HN.out]; rfl, HB.out⟩
theorem containsS_any (j : Int) (N : Nat) (A : Option Addr) (ps : List SV) (c : Nat) (w : World) (hr : RdSs w w.heap.size A ps) (hm : ps.length ≤ maxLen) (hf : ∀ p ∈ ps, p.fs.length ≤ maxLen) (hN : N < w.heap.size) (hc : w.cell? ⟨N, 0, none⟩ = some (.int .i64 j)) :
    Calls Try.prog 106 #[.slice A ps.length c, .func (.func 107) #[] #[.pointer (some ⟨N, 0, none⟩)]] w (Ret (.bool (used (ps.map SV.d) j)) w) := by
  have HQ := hide (indexS_any j N A ps c w hr hm hf hN hc)
  clear hr hm hc hf
  go_enter Try.func106, Try.ntmps106
  go_wp2_with fail
  refine HQ.out.mono ?_
  rintro e w2 ⟨r, rfl, hr2, b2⟩
  have HR := hide hr2
  have HB := hide b2
  clear hr2 b2
  go_wp2_with fail
  go_ret
  exact ⟨by rw [← HR.out]; rfl, HB.out⟩
theorem uses_any (o : OV) (j : Int) (w : World) (hr : RdO w w.heap.size o) (hm : o.ps.length ≤ maxLen) (hf : ∀ p ∈ o.ps, p.fs.length ≤ maxLen) :
    Calls Try.prog 42 #[.agg #[.slice o.A o.ps.length o.c, .slice o.Y o.ys.length o.yc], .int .i64 j] w (Ret (.bool (used o.d.ss j)) w) := by
  obtain ⟨A, c, ps, Y, yc, ys⟩ := o
  simp only [OV.d] at hm hf ⊢
  have B0 : Below w.heap.size w ((w.alloc (.cells #[.slice A ps.length c, .slice Y ys.length yc] 26)).alloc (.cells #[.int .i64 j] 3)) := (by repeat (first | exact Below.refl _ _ | with_reducible assumption | (refine Below.drew ?_) | (refine Below.drewN ?_ _) | (refine Below.alloc ?_ (by simp; try omega) _) | (refine Below.setCell ?_ (by simp; try omega) _)))
  have N0 := Box.new (w.alloc (.cells #[.slice A ps.length c, .slice Y ys.length yc] 26)) 3 #[.int .i64 j]
  simp only [World.size_alloc] at N0
  have hn0 := N0.cell 0
  simp only [List.getElem?_toArray, List.getElem?_cons_zero] at hn0
  have HQ := hide (containsS_any j (w.heap.size + 1) A ps c _ ((hr.1.below B0).more B0.size) hm hf N0.lt hn0)
  have HB := hide B0
  clear B0 hr hm hf hn0 N0
  go_enter Try.func42, Try.ntmps42
  go_wp2_with fail
  refine HQ.out.mono ?_
  rintro e w2 ⟨rfl, b2⟩
  have HB2 := hide (HB.out.trans (b2.mono HB.out.size))
  clear b2
  go_wp2_with fail
  go_ret
  exact ⟨rfl, HB2.out⟩
end Go.Proofs.Ytmglgjchemecjaa.CUses
/- Contracts of the laws' helpers on Warning: the copy, the comparison of equal data, the marks. Written by a program. -/
namespace Go.Proofs.Ytmglgjchemecjaa.CWarnings
set_option maxRecDepth 200000
open Go.ChangeShapes Go.WideShapes Go.ChangeAt Go.RowKit Kit
theorem info : (Try.prog.info? 31).map (fun i => (i.zero, i.size, i.bytes)) = some (some (.agg #[.int .i64 0, .int .i64 0]), 2, 16) := by kernel_rfl
abbrev D := Int × Int
def warningC (r : D) : List Value := [.int .i64 r.1, .int .i64 r.2]
theorem warningC_len (r : D) : (warningC r).length = 2 := rfl
theorem eqWarning_same (x : D) (w : World) : Calls Try.prog 57 #[.agg #[.int .i64 x.1, .int .i64 x.2], .agg #[.int .i64 x.1, .int .i64 x.2]] w (Ret (.bool true) w) := by
  go_enter Try.func57, Try.ntmps57
  go_wp2
  go_ret
  exact ⟨rfl, (by repeat (first | exact Below.refl _ _ | with_reducible assumption | (refine Below.drew ?_) | (refine Below.drewN ?_ _) | (refine Below.alloc ?_ (by simp; try omega) _) | (refine Below.setCell ?_ (by simp; try omega) _)))⟩
set_option maxRecDepth 20000 in
theorem eqWarningS_same (A A' : Option Addr) (xs : List D) (c c' : Nat) (w : World) (hr : Rd w w.heap.size A (cellsOf warningC xs)) (hr' : Rd w w.heap.size A' (cellsOf warningC xs)) (hm : xs.length ≤ maxLen) :
    Calls Try.prog 18 #[.slice A xs.length c, .slice A' xs.length c'] w (Ret (.bool true) w) := by
  unfold maxLen at hm
  have h0 : (((xs.length : Nat) : Int) != (xs.length : Nat)) = false := by simp
  go_enter Try.func18, Try.ntmps18
  go_wp2
  clear h0
  go_loopw [5] (fun i wr => ∃ k : Nat, k ≤ xs.length ∧ i = .int .i64 k ∧ Below w.heap.size w wr) (fun i _ => xs.length - (intOf i).toNat)
  case atStart => exact ⟨0, Nat.zero_le _, rfl, Below.refl _ _⟩
  case round =>
    obtain ⟨k, hk, rfl, hb⟩ := hrel
    have HB := hide hb
    by_cases hlt : k < xs.length
    · obtain ⟨b, off, rfl, _, hc⟩ := (hr.below hb).row warningC_len (by decide) hlt
      obtain ⟨b', off', rfl, _, hd⟩ := (hr'.below hb).row warningC_len (by decide) hlt
      have hc0 := hc 0 _ rfl
      have hd0 := hd 0 _ rfl
      have hc1 := hc 1 _ rfl
      have hd1 := hd 1 _ rfl
      simp only [Nat.add_zero] at hc0 hd0
      clear hr hr' hc hd hb
      generalize xs[k] = x at *
      go_wp2_with fail
      go_still_tail 8, (by kernel_rfl)
      change wpList _ _ _ _ _ wr.drew
      clear hc0 hd0 hc1 hd1
      go_wp2_with fail
      refine (eqWarning_same _ _).mono ?_
      rintro e w2 ⟨rfl, hb2⟩
      have HB' := hide (HB.out.trans ((of_drew hb2).mono HB.out.size))
      clear hb2
      go_wp2_with fail
      go_roundw
      case rel => exact ⟨k + 1, by omega, by go_num, HB'.out⟩
      case measure => simp [intOf]; omega
    · clear hr hr'
      go_wp2_with fail
      go_ret
      exact ⟨rfl, HB.out⟩

def marks (k0 : Int) (m : Nat) : List D := (List.range m).map fun (i : Nat) => (k0 + 2 * (i : Int), k0 + 2 * (i : Int) + 1)
theorem marks_len (k0 : Int) (m : Nat) : (marks k0 m).length = m := by simp [marks]
theorem marks_at (k0 : Int) (m i : Nat) (h : i < m) : (marks k0 m)[i]'(by rw [marks_len]; exact h) = (k0 + 2 * (i : Int), k0 + 2 * (i : Int) + 1) := by simp [marks]
theorem marks_succ (k0 : Int) (i : Nat) : marks k0 (i + 1) = marks k0 i ++ [(k0 + 2 * (i : Int), k0 + 2 * (i : Int) + 1)] := by simp [marks, List.range_succ]
theorem mark_any (base : Nat) (A : Option Addr) (c m : Nat) (cs : List Value) (k0 : Int) (w : World) (h0 : 0 ≤ k0) (hk0 : k0 ≤ 4294967296) (hm : m ≤ 4294967296)
    (hown : w.ownsRow base 31 2 (.slice A m c) m cs) :
    Calls Try.prog 21 #[.slice A m c, .int .i64 k0] w fun e w' => e = .returned (.int .i64 (k0 + 2 * m)) ∧ w'.ownsRow base 31 2 (.slice A m c) m (cellsOf warningC (marks k0 m)) ∧ w.grownBy w' (Value.slice A m c).ownBlock := by
  go_enter Try.func21, Try.ntmps21
  go_wp2
  have hg0 := World.grownBy.refl w (Value.slice A m c).ownBlock
  go_loopw [1, 5] (fun k i wr => ∃ j : Nat, j ≤ m ∧ i = .int .i64 j ∧ k = .int .i64 (k0 + 2 * j) ∧ (∃ xs, wr.ownsRow base 31 2 (.slice A m c) m (cellsOf warningC (marks k0 j) ++ xs)) ∧ w.grownBy wr (Value.slice A m c).ownBlock) (fun _ i _ => m - (intOf i).toNat)
  case atStart => exact ⟨0, Nat.zero_le _, rfl, by simp, ⟨cs, by simpa [marks, cellsOf] using hown⟩, hg0⟩
  case round =>
    obtain ⟨j, hj, rfl, rfl, ⟨xs, ho⟩, hg⟩ := hrel
    clear hown hg0
    by_cases hlt : j < m
    · have hform : ∃ g, A = some ⟨g, 0, none⟩ := by
        rcases ho.2 with ⟨hv, h0⟩ | ⟨g, cap, cur, hv, _⟩
        · omega
        · injection hv with hA
          exact ⟨g, hA⟩
      obtain ⟨g, rfl⟩ := hform
      obtain ⟨⟨old0, hk0⟩, hfz0⟩ := own_old ho (j := j * 2) (by omega)
      obtain ⟨⟨old1, hk1⟩, hfz1⟩ := own_old ho (j := j * 2 + 1) (by omega)
      have hpl : (cellsOf warningC (marks k0 j)).length = j * 2 := by rw [cellsOf_len warningC_len, marks_len]
      have ho1 := own_put ho hpl (by omega) (.int .i64 (k0 + 2 * (j : Int)))
      have hg1 := grown_put (u := .int .i64 (k0 + 2 * (j : Int))) (j := j * 2) hg
      have ho2 := own_put ho1 (j := j * 2 + 1) (by simp only [List.length_append, hpl]; rfl) (by omega) (.int .i64 (k0 + 2 * (j : Int) + 1))
      have hg2 := grown_put (u := .int .i64 (k0 + 2 * (j : Int) + 1)) (j := j * 2 + 1) hg1
      have HH := hide (And.intro ho2 hg2)
      have E1 := hide (show k0 + 2 * (j : Int) + 1 + 1 = k0 + 2 * ((j + 1 : Nat) : Int) by omega)
      clear ho1 hg1 ho2 hg2 ho hg hpl
      go_wp2
      refine ⟨⟨j + 1, by omega, by go_num, by rw [E1.out], ⟨xs.tail.tail, ?_⟩, HH.out.2⟩, by simp [intOf]; omega⟩
      rw [marks_succ]
      simpa [cellsOf, warningC] using HH.out.1
    · have e : j = m := by omega
      subst e
      have hxs : xs = [] := by
        have := ho.1
        rw [List.length_append, cellsOf_len warningC_len, marks_len] at this
        exact List.eq_nil_of_length_eq_zero (by omega)
      subst hxs
      rw [List.append_nil] at ho
      go_wp2
      go_ret
      exact ⟨rfl, ho, hg⟩
theorem held_any (B : Nat) (A : Option Addr) (c m : Nat) (k0 : Int) (w : World) (h0 : 0 ≤ k0) (hk0 : k0 ≤ 4294967296) (hm : m ≤ 4294967296) (hr : Rd w B A (cellsOf warningC (marks k0 m))) :
    Calls Try.prog 22 #[.slice A m c, .int .i64 k0] w (Pure (.int .i64 (k0 + 2 * m)) w) := by
  go_enter Try.func22, Try.ntmps22
  go_wp2
  go_loop [1, 5] (fun k i => ∃ j : Nat, j ≤ m ∧ i = .int .i64 j ∧ k = .int .i64 (k0 + 2 * j)) (fun _ i => m - (intOf i).toNat)
  case atStart => exact ⟨0, Nat.zero_le _, rfl, by simp⟩
  case round =>
    obtain ⟨j, hj, rfl, rfl⟩ := hrel
    by_cases hlt : j < m
    · obtain ⟨b, off, rfl, _, hc⟩ := hr.row warningC_len (by decide) (k := j) (by rw [marks_len]; exact hlt)
      rw [marks_at _ _ _ hlt] at hc
      have hc0 := hc 0 _ rfl
      have hc1 := hc 1 _ rfl
      simp only [Nat.add_zero] at hc0
      have E1 := hide (show k0 + 2 * (j : Int) + 1 + 1 = k0 + 2 * ((j + 1 : Nat) : Int) by omega)
      clear hr hc
      go_wp2
      go_round
      case rel => exact ⟨j + 1, by omega, by go_num, by rw [E1.out]⟩
      case measure => simp [intOf]; omega
    · have e : j = m := by omega
      subst e
      clear hr
      go_wp2
      go_ret
      exact ⟨rfl, rfl⟩
end Go.Proofs.Ytmglgjchemecjaa.CWarnings
/- The reference's l9Used; the program's covers. -/
namespace Go.Proofs.Ytmglgjchemecjaa.CCovers
set_option maxRecDepth 200000
open Go.ChangeShapes Go.WideShapes Go.ChangeAt Go.RowKit Kit CCode CFixups CSymbols PObj BObj PValid CSecValid CUses
theorem l9Used_any (o : OV) (n : Int) (w : World) (hr : RdO w w.heap.size o) (hm : o.ps.length ≤ maxLen) (hf : ∀ p ∈ o.ps, p.fs.length ≤ maxLen) :
    Calls Try.prog 45 #[.agg #[.slice o.A o.ps.length o.c, .slice o.Y o.ys.length o.yc], .int .i64 n] w (Ret (.bool (used o.d.ss n)) w) := by
  obtain ⟨A, c, ps, Y, yc, ys⟩ := o
  have hu : used (OV.d ⟨A, c, ps, Y, yc, ys⟩).ss n = ps.any (fun p => useS n p.fs) := by
    unfold used OV.d
    rw [List.any_map]
    rfl
  rw [hu]
  clear hu
  simp only at hm hf ⊢
  unfold maxLen at hm
  have HR := hide hr.1
  have HF := hide hf
  have B0 : Below w.heap.size w (w.alloc (.cells #[.slice A ps.length c, .slice Y ys.length yc] 26)) := (by repeat (first | exact Below.refl _ _ | with_reducible assumption | (refine Below.drew ?_) | (refine Below.drewN ?_ _) | (refine Below.alloc ?_ (by simp; try omega) _) | (refine Below.setCell ?_ (by simp; try omega) _)))
  have X0 := Box.new w 26 #[.slice A ps.length c, .slice Y ys.length yc]
  have HB := hide B0
  clear B0 hr hf
  go_enter Try.func45, Try.ntmps45
  go_wp2_with fail
  generalize w.alloc (.cells #[.slice A ps.length c, .slice Y ys.length yc] 26) = w0 at *
  go_loopw [5] (fun i wi => ∃ k : Nat, k ≤ ps.length ∧ i = .int .i64 k ∧ (ps.take k).any (fun p => useS n p.fs) = false ∧ Box wi w.heap.size 26 #[.slice A ps.length c, .slice Y ys.length yc] ∧ Below w.heap.size w wi) (fun i _ => ps.length - (intOf i).toNat)
  case atStart => exact ⟨0, Nat.zero_le _, rfl, rfl, X0, HB.out⟩
  case round =>
    obtain ⟨k, hk, rfl, hno, hx, hb⟩ := hrel
    have HX := hide hx
    have HBI := hide hb
    have x0 := hx.cell 0
    simp only [List.getElem?_toArray, List.getElem?_cons_zero, List.getElem?_cons_succ] at x0
    have hxl := hx.lt
    clear X0 HB
    by_cases hlt : k < ps.length
    · have HN := hide hno
      have HS := hide (show useS n ps[k].fs = false → (ps.take (k + 1)).any (fun p => useS n p.fs) = false from fun h => by rw [take_succ hlt, List.any_append, hno]; simp [h])
      have HT := hide (show useS n ps[k].fs = true → ps.any (fun p => useS n p.fs) = true from fun h => List.any_eq_true.2 ⟨_, List.getElem_mem hlt, h⟩)
      have hrow := (HR.out.1.below hb).row secC_len (by decide) hlt
      have HRF := hide (HR.out.2 _ (List.getElem_mem hlt)).2
      have hfl := HF.out _ (List.getElem_mem hlt)
      have HROW := hide (fun (V : World) (hV : Below w.heap.size w V) => (HR.out.1.below hV).row secC_len (by decide) hlt)
      obtain ⟨b, off, hA, hbg, hc⟩ := hrow
      subst hA
      clear hno hx hb hc
      unfold maxLen at hfl
      generalize hpk : ps[k] = p at *
      go_wp2_with fail
      go_loopw [6] (fun jj wi => ∃ j : Nat, j ≤ p.fs.length ∧ jj = .int .i64 j ∧ (p.fs.take j).any (useF n) = false ∧ Box wi w.heap.size 26 #[.slice (some ⟨b, off, none⟩) ps.length c, .slice Y ys.length yc] ∧ Below w.heap.size w wi) (fun jj _ => p.fs.length - (intOf jj).toNat)
      case atStart => exact ⟨0, Nat.zero_le _, rfl, rfl, HX.out, HBI.out⟩
      case round =>
        clear HX HBI x0 hxl
        obtain ⟨j, hj, rfl, hno, hx, hb⟩ := hrel
        have HX := hide hx
        have HBI := hide hb
        have x0 := hx.cell 0
        simp only [List.getElem?_toArray, List.getElem?_cons_zero, List.getElem?_cons_succ] at x0
        obtain ⟨b', off', hA', hbg', hc⟩ := HROW.out wr hb
        simp only [Option.some.injEq, Addr.mk.injEq, and_true] at hA'
        obtain ⟨rfl, rfl⟩ := hA'
        have hc5 := hc 5 _ rfl
        by_cases hjl : j < p.fs.length
        · obtain ⟨b2, off2, hF, hbg2, hcf⟩ := (HRF.out.below hb).row fixupC_len (by decide) hjl
          have hf2 := hcf 2 _ rfl
          have HS2 := hide (show useF n p.fs[j] = false → (p.fs.take (j + 1)).any (useF n) = false from fun h => by rw [take_succ hjl, List.any_append, hno]; simp [h])
          have HT2 := hide (show useF n p.fs[j] = true → useS n p.fs = true from fun h => List.any_eq_true.2 ⟨_, List.getElem_mem hjl, h⟩)
          rw [hF] at hc5
          clear hno hx hb hc hcf
          unfold useF at HS2 HT2
          generalize p.fs[j] = f at *
          cases hq : (f.2.2.1 == n)
          · have HS' := hide (HS2.out hq)
            clear HS2 HT2
            go_wp2_with fail
            refine ⟨⟨j + 1, by omega, by go_num, HS'.out, HX.out, HBI.out⟩, by simp [intOf]; omega⟩
          · have HV := hide (HT.out (HT2.out hq))
            clear HS2 HT2 HT HS
            go_wp2_with fail
            go_ret
            exact ⟨by rw [HV.out]; rfl, HBI.out⟩
        · have HS' := hide (HS.out (show p.fs.any (useF n) = false by rw [← hno, List.take_of_length_le (by omega)]))
          clear HS HT hno hx hb hc
          go_wp2_with fail
          refine ⟨⟨k + 1, by omega, by go_num, HS'.out, HX.out, HBI.out⟩, by simp [intOf]; omega⟩
    · have HV := hide (show ps.any (fun p => useS n p.fs) = false by rw [← hno, List.take_of_length_le (by omega)])
      clear hno hx hb
      go_wp2_with fail
      go_ret
      exact ⟨by rw [HV.out]; rfl, HBI.out⟩
/-- Whether a fixup fills a byte that is not 0. -/
def fills (zs : List Int) (f : FD) : List Int := (zs.drop f.1.toNat).take (wide f.2.1).toNat
def coverF (zs : List Int) (f : FD) : Bool := (fills zs f).any fun x => x != 0
def coverB (d : SD) : Bool := d.fs.any (coverF d.zs)
/-- All fixups lie in the bytes. -/
def InB (zs : List Int) (fs : List FD) : Prop := ∀ f ∈ fs, 0 ≤ f.1 ∧ f.1 + wide f.2.1 ≤ zs.length
theorem covers_any (p : SV) (w : World) (hr : RdS w w.heap.size p) (hz : p.zs.length ≤ 1048576) (hf : p.fs.length ≤ 1048576) (hcp : p.zs.length ≤ p.c) (hin : InB p.zs p.fs) :
    Calls Try.prog 44 #[.agg #[.string p.nm, .int .i64 p.kd, .int .i64 p.al, .slice p.A p.zs.length p.c, .int .i64 p.sz, .slice p.F p.fs.length p.fc]] w (Ret (.bool (coverB p.d)) w) := by
  obtain ⟨nm, kd, al, A, c, zs, sz, F, fc, fs⟩ := p
  have hcb : coverB (SV.d ⟨nm, kd, al, A, c, zs, sz, F, fc, fs⟩) = fs.any (coverF zs) := rfl
  rw [hcb]
  clear hcb
  simp only at hz hf hcp hin ⊢
  have HR := hide hr
  have HI := hide hin
  have B0 : Below w.heap.size w (w.alloc (.cells #[.string nm, .int .i64 kd, .int .i64 al, .slice A zs.length c, .int .i64 sz, .slice F fs.length fc] 73)) := (by repeat (first | exact Below.refl _ _ | with_reducible assumption | (refine Below.drew ?_) | (refine Below.drewN ?_ _) | (refine Below.alloc ?_ (by simp; try omega) _) | (refine Below.setCell ?_ (by simp; try omega) _)))
  have X0 := Box.new w 73 #[.string nm, .int .i64 kd, .int .i64 al, .slice A zs.length c, .int .i64 sz, .slice F fs.length fc]
  have HB := hide B0
  clear B0 hr hin
  go_enter Try.func44, Try.ntmps44
  go_wp2_with fail
  generalize w.alloc (.cells #[.string nm, .int .i64 kd, .int .i64 al, .slice A zs.length c, .int .i64 sz, .slice F fs.length fc] 73) = w0 at *
  go_loopw [10] (fun i wi => ∃ k : Nat, k ≤ fs.length ∧ i = .int .i64 k ∧ (fs.take k).any (coverF zs) = false ∧ Box wi w.heap.size 73 #[.string nm, .int .i64 kd, .int .i64 al, .slice A zs.length c, .int .i64 sz, .slice F fs.length fc] ∧ Below w.heap.size w wi) (fun i _ => fs.length - (intOf i).toNat)
  case atStart => exact ⟨0, Nat.zero_le _, rfl, rfl, X0, HB.out⟩
  case round =>
    obtain ⟨k, hk, rfl, hno, hx, hb⟩ := hrel
    have HX := hide hx
    have HBI := hide hb
    have hxl := hx.lt
    clear X0 HB
    by_cases hlt : k < fs.length
    · have HS := hide (show coverF zs fs[k] = false → (fs.take (k + 1)).any (coverF zs) = false from fun h => by rw [take_succ hlt, List.any_append, hno]; simp [h])
      have HT := hide (show coverF zs fs[k] = true → fs.any (coverF zs) = true from fun h => List.any_eq_true.2 ⟨_, List.getElem_mem hlt, h⟩)
      obtain ⟨b, off, hF, hbg, hc⟩ := (HR.out.2.below hb).row fixupC_len (by decide) hlt
      subst hF
      have hc0 := hc 0 _ rfl
      have hc1 := hc 1 _ rfl
      have hc2 := hc 2 _ rfl
      have hc3 := hc 3 _ rfl
      simp only [Nat.add_zero] at hc0
      have hi := HI.out _ (List.getElem_mem hlt)
      clear hno hx hb hc
      generalize fs[k] = f at *
      obtain ⟨f0, f1, f2, f3⟩ := f
      simp only at hc0 hc1 hc2 hc3 hi
      obtain ⟨i0, hi1⟩ := hi
      have hwd := wide_bd f1
      obtain ⟨a, rfl⟩ := Int.eq_ofNat_of_zero_le i0
      go_wp2_with fail
      have B1 : Below wr.heap.size wr (wr.alloc (.cells #[.int .i64 a, .int .i64 f1, .int .i64 f2, .int .i64 f3] 77)) := (by repeat (first | exact Below.refl _ _ | with_reducible assumption | (refine Below.drew ?_) | (refine Below.drewN ?_ _) | (refine Below.alloc ?_ (by simp; try omega) _) | (refine Below.setCell ?_ (by simp; try omega) _)))
      have HX1 := hide (HX.out.call B1)
      have HZ1 := hide (Box.new wr 77 #[.int .i64 a, .int .i64 f1, .int .i64 f2, .int .i64 f3])
      have HB1 := hide (HBI.out.trans (B1.mono HBI.out.size))
      clear B1 HX HBI hc0 hc1 hc2 hc3
      generalize wr.alloc (.cells #[.int .i64 a, .int .i64 f1, .int .i64 f2, .int .i64 f3] 77) = w1 at *
      generalize wr.heap.size = Z at *
      have z0 := HZ1.out.cell 0
      have z1 := HZ1.out.cell 1
      have x3 := HX1.out.cell 3
      simp only [List.getElem?_toArray, List.getElem?_cons_zero, List.getElem?_cons_succ] at z0 z1 x3
      have hzl := HZ1.out.lt
      have hxl1 := HX1.out.lt
      obtain ⟨wd, hwd'⟩ := Int.eq_ofNat_of_zero_le hwd.1
      have HWD := hide hwd'
      have HFW := hide (fun V => fixupWide_any f1 V)
      rw [hwd'] at HFW hi1
      clear hwd hwd'
      have hsum : a + wd ≤ zs.length := by omega
      have hw1 : IntKind.i64.wrap ((a : Int) + wd) = (a : Int) + wd := IntWalk.i64_in _ (by omega)
      have HFL := hide (show fills zs ((a : Int), f1, f2, f3) = (zs.drop a).take wd by unfold fills; simp only [HWD.out, Int.toNat_natCast])
      by_cases h0 : wd = 0
      · have HC := hide (HS.out (by unfold coverF; rw [HFL.out, h0]; rfl))
        have HW0 := hide h0
        clear HS HT HFL HWD h0
        cases A with
        | none =>
          go_quiet ((go_at_call 49; exact Pure.quiet (HFW.out _)))
          rw [HW0.out, show ((0 : Nat) : Int) = 0 from rfl]
          go_wp2_with fail
          go_loopw [26] (fun i wi => i = .int .i64 0 ∧ Box wi w.heap.size 73 #[.string nm, .int .i64 kd, .int .i64 al, .slice none zs.length c, .int .i64 sz, .slice (some ⟨b, off, none⟩) fs.length fc] ∧ Below w.heap.size w wi) (fun i _ => 0)
          case atStart => exact ⟨rfl, HX1.out.drewN _, Kit.Below.drewN HB1.out _⟩
          case round =>
            obtain ⟨rfl, hx, hb⟩ := hrel
            have HX2 := hide hx
            have HB2 := hide hb
            clear hx hb x3 z0 z1
            go_wp2_with fail
            refine ⟨⟨k + 1, by omega, by go_num, HC.out, HX2.out, HB2.out⟩, by simp [intOf]; omega⟩
        | some ad =>
          go_quiet ((go_at_call 49; exact Pure.quiet (HFW.out _)))
          rw [HW0.out, show ((0 : Nat) : Int) = 0 from rfl]
          generalize (if c = a then some ad else some (ad.add a)) = AX
          go_wp2_with fail
          go_loopw [26] (fun i wi => i = .int .i64 0 ∧ Box wi w.heap.size 73 #[.string nm, .int .i64 kd, .int .i64 al, .slice (some ad) zs.length c, .int .i64 sz, .slice (some ⟨b, off, none⟩) fs.length fc] ∧ Below w.heap.size w wi) (fun i _ => 0)
          case atStart => exact ⟨rfl, HX1.out.drewN _, Kit.Below.drewN HB1.out _⟩
          case round =>
            obtain ⟨rfl, hx, hb⟩ := hrel
            have HX2 := hide hx
            have HB2 := hide hb
            clear hx hb x3 z0 z1
            go_wp2_with fail
            refine ⟨⟨k + 1, by omega, by go_num, HC.out, HX2.out, HB2.out⟩, by simp [intOf]; omega⟩
      · have hai : a < zs.length := by omega
        obtain ⟨bA, oA, hA, hbA, _⟩ := (HR.out.1.below HB1.out).int hai
        subst hA
        have hca : ¬ c = a := by omega
        have e0 : a + wd - a = wd := by omega
        go_quiet ((go_at_call 49; exact Pure.quiet (HFW.out _)))
        rw [e0]
        have HX2 := hide (HX1.out.drewN nq)
        have HB2 := hide (Kit.Below.drewN HB1.out nq)
        clear HX1 HB1 x3 z0 z1 hzl hxl1 HZ1
        generalize w1.drewN nq = w2 at *
        go_wp2_with fail
        go_loopw [26] (fun i wi => ∃ j : Nat, j ≤ wd ∧ i = .int .i64 j ∧ (((zs.drop a).take j).any fun x => x != 0) = false ∧ Box wi w.heap.size 73 #[.string nm, .int .i64 kd, .int .i64 al, .slice (some ⟨bA, oA, none⟩) zs.length c, .int .i64 sz, .slice (some ⟨b, off, none⟩) fs.length fc] ∧ Below w.heap.size w wi) (fun i _ => wd - (intOf i).toNat)
        case atStart => exact ⟨0, Nat.zero_le _, rfl, rfl, HX2.out, HB2.out⟩
        case round =>
          obtain ⟨j, hj, rfl, hnz, hx, hb⟩ := hrel
          have HX3 := hide hx
          have HB3 := hide hb
          clear HX2 HB2
          by_cases hjl : j < wd
          · have haj : a + j < zs.length := by omega
            obtain ⟨b', o', hA', _, hcz⟩ := (HR.out.1.below hb).int haj
            simp only [Option.some.injEq, Addr.mk.injEq, and_true] at hA'
            obtain ⟨rfl, rfl⟩ := hA'
            rw [← Nat.add_assoc] at hcz
            have hdl : j < (zs.drop a).length := by rw [List.length_drop]; omega
            have hge : (zs.drop a)[j] = zs[a + j] := List.getElem_drop ..
            have HS2 := hide (show zs[a + j] = 0 → (((zs.drop a).take (j + 1)).any fun x => x != 0) = false from fun h => by
              rw [take_succ hdl, List.any_append, hnz, hge, h]
              rfl)
            have HT2 := hide (show zs[a + j] ≠ 0 → coverF zs ((a : Int), f1, f2, f3) = true from fun h => by
              unfold coverF
              rw [HFL.out]
              refine List.any_eq_true.2 ⟨zs[a + j], ?_, bne_iff_ne.2 h⟩
              rw [List.mem_take_iff_getElem]
              exact ⟨j, by omega, hge⟩)
            clear hnz hx hb hge hdl
            generalize zs[a + j] = z at *
            by_cases hzz : z = 0
            · have HS' := hide (HS2.out hzz)
              have e1 : (z != 0) = false := by rw [hzz]; rfl
              clear HS2 HT2 hzz
              go_wp2_with fail
              refine ⟨⟨j + 1, by omega, by go_num, HS'.out, HX3.out, HB3.out⟩, by simp [intOf]; omega⟩
            · have HV := hide (HT.out (HT2.out hzz))
              have e1 : (z != 0) = true := bne_iff_ne.2 hzz
              clear HS2 HT2 hzz HS HT
              go_wp2_with fail
              go_ret
              exact ⟨by rw [HV.out]; rfl, HB3.out⟩
          · have HC := hide (HS.out (by
              unfold coverF
              rw [HFL.out]
              rw [show wd = j by omega]
              exact hnz))
            clear HS HT hnz hx hb
            go_wp2_with fail
            refine ⟨⟨k + 1, by omega, by go_num, HC.out, HX3.out, HB3.out⟩, by simp [intOf]; omega⟩
    · have HV := hide (show fs.any (coverF zs) = false by rw [← hno, List.take_of_length_le (by omega)])
      clear hno hx hb
      go_wp2_with fail
      go_ret
      exact ⟨by rw [HV.out]; rfl, HBI.out⟩
end Go.Proofs.Ytmglgjchemecjaa.CCovers
