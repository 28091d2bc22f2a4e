/- Contracts of the library's functions on []byte: slices.Grow at a nil slice, slices.Concat of two, slices.Clone. -/
import Derived.Test.YtjnnjgogpapbhaaBase4
import Derived.Test.YtjnnjgogpapbhaaRows
import Derived.Test.YtjnnjgogpapbhaaCBytes8
import Derived.Lib.AppendZerosOnto
import Derived.WalkSpells
namespace Go.Proofs.Ytjnnjgogpapbhaa.CConcat
set_option maxRecDepth 200000
open Go.ChangeShapes Go.WideShapes Go.ChangeAt Go.RowKit Kit CBytes8
def NewEmpty (w : World) (e : Ending) (w' : World) : Prop := ∃ A c, e = .returned (.slice A 0 c) ∧ w'.ownsRow w.heap.size 5 1 (.slice A 0 c) 0 [] ∧ Below w.heap.size w w'
def pre2 (n m : Nat) (k : Nat) : Nat := if k = 0 then 0 else if k = 1 then n else n + m
/-- slices.Clone of a []byte that is not nil, or nil. -/
theorem clone_any (A : Option Addr) (xs : List Int) (c B : Nat) (w : World) (hx : Rd w B A (ints .u8 xs)) (hB : B ≤ w.heap.size) (hxm : xs.length ≤ 1048576) (hnil : A = none → c = 0) :
    Calls Try.prog 72 #[.slice A xs.length c] w (RetInts 5 .u8 xs w) := by
  obtain ⟨i0, hi, hz0, hz1, hz2⟩ := info_parts info8
  have hq := fun W => Lib.run_eql_slice_nil (P := Try.prog) W 22 5 A xs.length c 0 0 Try.underlying22
  cases A with
  | none =>
    have hxs : xs = [] := by
      cases xs with
      | nil => rfl
      | cons u r =>
        obtain ⟨b, off, e', _⟩ := hx 0 (.int .u8 u) rfl
        cases e'
    subst hxs
    have hc := hnil rfl
    subst hc
    clear hnil hx
    simp only [Option.isNone_none, List.length_nil] at hq
    show Calls _ _ #[.slice none 0 0] _ _
    go_enter Try.func72, Try.ntmps72
    go_wp2_with fail
    go_ret
    exact RetInts.nil (Below.refl _ _)
  | some ad =>
    have HX := hide ((hx.more hB).below ((Below.refl _ _).alloc (Nat.le_refl _) (.cells #[] 5)))
    have HO := hide (own_empty (w := w) (E := 5))
    have HB : Hid (Below w.heap.size w (w.alloc (.cells #[] 5))) := (by repeat (first | exact Below.refl _ _ | with_reducible assumption | (refine Below.drew ?_) | (refine Below.drewN ?_ _) | (refine Below.alloc ?_ (by simp; try omega) _) | (refine Below.setCell ?_ (by simp; try omega) _)))
    simp only [Option.isNone_some] at hq
    clear hx hnil
    go_enter Try.func72, Try.ntmps72
    go_wp2_with (at_builtin; refine wpList_appR _ rfl (.tmp 5) (.tmp 6) 22 rfl w.heap.size 5 i0 (.int .u8 0) 1 1 Try.underlying22 hi hz0 hz1 hz2 rfl (by decide) _ _ _ _ rfl HX.out ?n0 ?nn oneI _ _ _ rfl HO.out ?n1 ?n2 HB.out.size ?_)
    case n0 => simp
    case nn => intro h; cases h
    case n1 => unfold maxLen; omega
    case n2 => omega
    intro A6 n6 c6 w6 hn6 o6 g6
    have hn6 : n6 = xs.length := by omega
    have HO6 := hide o6
    have HB6 := hide (HB.out.grown g6 HB.out.size (fun k hk => (HO.out.lt k hk).1))
    clear o6 g6
    have HN6 := hide hn6
    clear hn6
    go_wp2_with fail
    go_ret
    exact RetInts.mk HN6.out HO6.out HB6.out
end Go.Proofs.Ytjnnjgogpapbhaa.CConcat
