/- slices.Clone of symbols, fixups and bytes. -/
import Derived.Test.YtmglgjchemecjaaCCopyS
import Derived.Lib.AppendZerosOnto
import Derived.WalkSpells
import Derived.Deep.RegionHeld3
import Derived.Deep.RegionLaw
import Derived.Deep.RegionLawGrows
namespace Go.Proofs.Ytmglgjchemecjaa.CClones
set_option maxRecDepth 200000
open Go.ChangeShapes Go.WideShapes Go.ChangeAt Go.RowKit Kit CFixups CSymbols PObj BObj CMarkRows CObjValid CCopyS
/-- A row of the call's own. -/
def RetRow (T m n : Nat) (xs : List Value) (w : World) (e : Ending) (w' : World) : Prop := ∃ A c, e = .returned (.slice A n c) ∧ Row w' w.heap.size T m A n c xs ∧ Below w.heap.size w w'
theorem cloneY_any (A : Option Addr) (xs : List YD) (c B : Nat) (w : World) (hx : Rd w B A (cellsOf symbolC xs)) (hB : B ≤ w.heap.size) (hxm : xs.length ≤ 1048576) (hnil : A = none → c = 0) :
    Calls Try.prog 111 #[.slice A xs.length c] w (RetRow 69 4 xs.length (cellsOf symbolC xs) w) := by
  obtain ⟨i0, hi, hz0, hz1, hz2⟩ := info_parts infoY
  have hq := fun W => Lib.run_eql_slice_nil (P := Try.prog) W 24 69 A xs.length c 0 0 Try.underlying24
  cases A with
  | none =>
    have hxs : xs = [] := by
      cases xs with
      | nil => rfl
      | cons u r =>
        obtain ⟨b, off, e', _⟩ := hx 0 _ rfl
        cases e'
    subst hxs
    have hc := hnil rfl
    subst hc
    clear hnil hx
    simp only [Option.isNone_none, List.length_nil] at hq
    show Calls _ _ #[.slice none 0 0] _ _
    go_enter Try.func111, Try.ntmps111
    go_wp2_with fail
    go_ret
    exact ⟨none, 0, rfl, Row.empty _ _ _ _ _, Below.refl _ _⟩
  | some ad =>
    have HX := hide ((hx.more hB).below ((Below.refl _ _).alloc (Nat.le_refl _) (.cells #[] 69)))
    have HB : Hid (Below w.heap.size w (w.alloc (.cells #[] 69))) := (by repeat (first | exact Below.refl _ _ | with_reducible assumption | (refine Below.drew ?_) | (refine Below.drewN ?_ _) | (refine Below.alloc ?_ (by simp; try omega) _) | (refine Below.setCell ?_ (by simp; try omega) _)))
    have HI := hide (And.intro hi (And.intro hz0 (And.intro hz1 hz2)))
    simp only [Option.isNone_some] at hq
    clear hx hnil hi hz0 hz1 hz2
    go_enter Try.func111, Try.ntmps111
    go_wp2_with (at_builtin; refine wpList_app _ rfl (.tmp 5) (.tmp 6) 24 rfl 69 i0 (.agg #[.string ByteArray.empty, .int .i64 0, .int .i64 0, .int .i64 0]) 4 40 Try.underlying24 HI.out.1 HI.out.2.1 HI.out.2.2.1 HI.out.2.2.2 rfl (by decide) w.heap.size (some ⟨w.heap.size, 0, none⟩) 0 0 [] rfl (Row.empty _ _ _ _ _) HB.out.size (some ad) xs.length c (cellsOf symbolC xs) rfl HX.out (cellsOf_len symbolC_len xs) (fun h => by cases h) (one_sym xs) ?n1 ?n2 ?_)
    case n1 => unfold maxLen; omega
    case n2 => omega
    intro A6 n6 c6 w6 hn6 o6 g6 k6
    have hn6 : n6 = xs.length := by omega
    have HO6 := hide (show Row w6 w.heap.size 69 4 A6 n6 c6 (cellsOf symbolC xs) from o6)
    have HB6 := hide (HB.out.grown g6 HB.out.size (fun k hk => by cases hk))
    clear o6 g6 k6
    subst hn6
    go_wp2_with fail
    go_ret
    exact ⟨A6, c6, rfl, HO6.out, HB6.out⟩
theorem cloneF_any (A : Option Addr) (xs : List FD) (c B : Nat) (w : World) (hx : Rd w B A (cellsOf fixupC xs)) (hB : B ≤ w.heap.size) (hxm : xs.length ≤ 1048576) (hnil : A = none → c = 0) :
    Calls Try.prog 113 #[.slice A xs.length c] w (RetRow 77 4 xs.length (cellsOf fixupC xs) w) := by
  obtain ⟨i0, hi, hz0, hz1, hz2⟩ := info_parts CFixups.info
  have hq := fun W => Lib.run_eql_slice_nil (P := Try.prog) W 71 77 A xs.length c 0 0 Try.underlying71
  cases A with
  | none =>
    have hxs : xs = [] := by
      cases xs with
      | nil => rfl
      | cons u r =>
        obtain ⟨b, off, e', _⟩ := hx 0 _ rfl
        cases e'
    subst hxs
    have hc := hnil rfl
    subst hc
    clear hnil hx
    simp only [Option.isNone_none, List.length_nil] at hq
    show Calls _ _ #[.slice none 0 0] _ _
    go_enter Try.func113, Try.ntmps113
    go_wp2_with fail
    go_ret
    exact ⟨none, 0, rfl, Row.empty _ _ _ _ _, Below.refl _ _⟩
  | some ad =>
    have HX := hide ((hx.more hB).below ((Below.refl _ _).alloc (Nat.le_refl _) (.cells #[] 77)))
    have HB : Hid (Below w.heap.size w (w.alloc (.cells #[] 77))) := (by repeat (first | exact Below.refl _ _ | with_reducible assumption | (refine Below.drew ?_) | (refine Below.drewN ?_ _) | (refine Below.alloc ?_ (by simp; try omega) _) | (refine Below.setCell ?_ (by simp; try omega) _)))
    have HI := hide (And.intro hi (And.intro hz0 (And.intro hz1 hz2)))
    simp only [Option.isNone_some] at hq
    clear hx hnil hi hz0 hz1 hz2
    go_enter Try.func113, Try.ntmps113
    go_wp2_with (at_builtin; refine wpList_app _ rfl (.tmp 5) (.tmp 6) 71 rfl 77 i0 (.agg #[.int .i64 0, .int .i64 0, .int .i64 0, .int .i64 0]) 4 32 Try.underlying71 HI.out.1 HI.out.2.1 HI.out.2.2.1 HI.out.2.2.2 rfl (by decide) w.heap.size (some ⟨w.heap.size, 0, none⟩) 0 0 [] rfl (Row.empty _ _ _ _ _) HB.out.size (some ad) xs.length c (cellsOf fixupC xs) rfl HX.out (cellsOf_len fixupC_len xs) (fun h => by cases h) (one_fix xs) ?n1 ?n2 ?_)
    case n1 => unfold maxLen; omega
    case n2 => omega
    intro A6 n6 c6 w6 hn6 o6 g6 k6
    have hn6 : n6 = xs.length := by omega
    have HO6 := hide (show Row w6 w.heap.size 77 4 A6 n6 c6 (cellsOf fixupC xs) from o6)
    have HB6 := hide (HB.out.grown g6 HB.out.size (fun k hk => by cases hk))
    clear o6 g6 k6
    subst hn6
    go_wp2_with fail
    go_ret
    exact ⟨A6, c6, rfl, HO6.out, HB6.out⟩
theorem clone8_any (A : Option Addr) (xs : List Int) (c B : Nat) (w : World) (hx : Rd w B A (ints .u8 xs)) (hB : B ≤ w.heap.size) (hxm : xs.length ≤ 1048576) (hnil : A = none → c = 0) :
    Calls Try.prog 112 #[.slice A xs.length c] w (RetRow 5 1 xs.length (ints .u8 xs) w) := by
  obtain ⟨i0, hi, hz0, hz1, hz2⟩ := info_parts CBytes.info8
  have hq := fun W => Lib.run_eql_slice_nil (P := Try.prog) W 22 5 A xs.length c 0 0 Try.underlying22
  cases A with
  | none =>
    have hxs : xs = [] := by
      cases xs with
      | nil => rfl
      | cons u r =>
        obtain ⟨b, off, e', _⟩ := hx 0 (.int .u8 u) rfl
        cases e'
    subst hxs
    have hc := hnil rfl
    subst hc
    clear hnil hx
    simp only [Option.isNone_none, List.length_nil] at hq
    show Calls _ _ #[.slice none 0 0] _ _
    go_enter Try.func112, Try.ntmps112
    go_wp2_with fail
    go_ret
    exact ⟨none, 0, rfl, Row.empty _ _ _ _ _, Below.refl _ _⟩
  | some ad =>
    have HX := hide ((hx.more hB).below ((Below.refl _ _).alloc (Nat.le_refl _) (.cells #[] 5)))
    have HB : Hid (Below w.heap.size w (w.alloc (.cells #[] 5))) := (by repeat (first | exact Below.refl _ _ | with_reducible assumption | (refine Below.drew ?_) | (refine Below.drewN ?_ _) | (refine Below.alloc ?_ (by simp; try omega) _) | (refine Below.setCell ?_ (by simp; try omega) _)))
    have HI := hide (And.intro hi (And.intro hz0 (And.intro hz1 hz2)))
    simp only [Option.isNone_some] at hq
    clear hx hnil hi hz0 hz1 hz2
    go_enter Try.func112, Try.ntmps112
    go_wp2_with (at_builtin; refine wpList_app _ rfl (.tmp 5) (.tmp 6) 22 rfl 5 i0 (.int .u8 0) 1 1 Try.underlying22 HI.out.1 HI.out.2.1 HI.out.2.2.1 HI.out.2.2.2 rfl (by decide) w.heap.size (some ⟨w.heap.size, 0, none⟩) 0 0 [] rfl (Row.empty _ _ _ _ _) HB.out.size (some ad) xs.length c (ints .u8 xs) rfl HX.out (by simp) (fun h => by cases h) (one_ints _ xs) ?n1 ?n2 ?_)
    case n1 => unfold maxLen; omega
    case n2 => omega
    intro A6 n6 c6 w6 hn6 o6 g6 k6
    have hn6 : n6 = xs.length := by omega
    have HO6 := hide (show Row w6 w.heap.size 5 1 A6 n6 c6 (ints .u8 xs) from o6)
    have HB6 := hide (HB.out.grown g6 HB.out.size (fun k hk => by cases hk))
    clear o6 g6 k6
    subst hn6
    go_wp2_with fail
    go_ret
    exact ⟨A6, c6, rfl, HO6.out, HB6.out⟩
end Go.Proofs.Ytmglgjchemecjaa.CClones
