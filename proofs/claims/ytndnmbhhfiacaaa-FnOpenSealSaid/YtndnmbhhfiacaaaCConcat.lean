/- Contracts of the library's functions on []byte: slices.Grow at a nil slice, slices.Concat of two, slices.Clone. -/
import Derived.Test.YtndnmbhhfiacaaaBase4
import Derived.Test.YtndnmbhhfiacaaaRows
import Derived.Test.YtndnmbhhfiacaaaCBytes8
import Derived.Lib.AppendZerosOnto
import Derived.WalkSpells
namespace Go.Proofs.Ytndnmbhhfiacaaa.CConcat
set_option maxRecDepth 200000
open Go.ChangeShapes Go.WideShapes Go.ChangeAt Go.RowKit Kit CBytes8
def NewEmpty (w : World) (e : Ending) (w' : World) : Prop := ∃ A c, e = .returned (.slice A 0 c) ∧ w'.ownsRow w.heap.size 5 1 (.slice A 0 c) 0 [] ∧ Below w.heap.size w w'
theorem grow_nil (n : Nat) (hn : n ≤ 1099511627776) (w : World) : Calls Try.prog 160 #[.slice none 0 0, .int .i64 n] w (NewEmpty w) := by
  obtain ⟨i0, hi, hz0, hz1, hz2⟩ := info_parts info8
  by_cases h0 : n = 0
  · subst h0
    go_enter Try.func160, Try.ntmps160
    go_wp2
    go_ret
    exact ⟨none, 0, rfl, World.ownsRow_nil _ _ _ _, Below.refl _ _⟩
  · have hrz : ∀ ty, (Builtin.append_ #[22, 3] ty #[.slice none 0 0, .int .i64 (n : Int)]).run Try.prog w = _ := fun ty =>
      Lib.run_append_grow_zeros w 22 3 ty 5 i0 (.int .u8 0) .i64 .i64 Try.underlying22 Try.underlying3 hi hz0 none 0 0 [] (run_firstCells_none w.drew i0.size 0 0 0) n (by omega) (by omega) (by omega) (by omega) (by rw [hz2]; omega) (growslice_fits (by omega) (by rw [hz2]; omega))
    have hG := grownCap_ge w (0 + n) 0 5
    have hGm := grownCap_le_maxLen w (0 + n) 0 5 (by unfold maxLen; omega)
    generalize grownCap w (0 + n) 0 5 = G at *
    have hs : (([] : List Value).toArray ++ Builtin.zeroCells (Value.int .u8 0).cells n ++ Builtin.zeroCells (Value.int .u8 0).cells (G - (0 + n))).size = G * 1 := by
      simp [Builtin.zeroCells, Value.cells]
      omega
    generalize ([] : List Value).toArray ++ Builtin.zeroCells (Value.int .u8 0).cells n ++ Builtin.zeroCells (Value.int .u8 0).cells (G - (0 + n)) = cur at *
    rw [Nat.zero_add] at hrz hG
    have HS := hide hs
    have HGm := hide hGm
    have hGm' := hGm
    unfold maxLen at hGm'
    clear hs hGm
    go_enter Try.func160, Try.ntmps160
    go_wp2_with (at_builtin; refine Lib.wpList_append_run _ rfl _ _ _ _ rfl _ _ rfl rfl _ _ (hrz _) ?_)
    all_goals
      go_ret
      exact ⟨_, G, rfl, World.ownsRow_made (base := w.heap.size) w.drew cur G (Nat.le_refl _) HGm.out HS.out, ((Below.refl _ _).drew).alloc (Nat.le_refl _) _⟩
def pre2 (n m : Nat) (k : Nat) : Nat := if k = 0 then 0 else if k = 1 then n else n + m
theorem concat_any (g : Nat) (A1 A2 : Option Addr) (xs ys : List Int) (c1 c2 B : Nat) (w : World) (hx : Rd w B A1 (ints .u8 xs)) (hy : Rd w B A2 (ints .u8 ys)) (hB : B ≤ w.heap.size) (hxm : xs.length ≤ 1048576) (hym : ys.length ≤ 1048576) (hn1 : A1 = none → c1 = 0) (hn2 : A2 = none → c2 = 0)
    (hg : Box w g 22 #[.slice A1 xs.length c1, .slice A2 ys.length c2]) :
    Calls Try.prog 121 #[.slice (some ⟨g, 0, none⟩) 2 2] w (RetInts 5 .u8 (xs ++ ys) w) := by
  obtain ⟨i0, hi, hz0, hz1, hz2⟩ := info_parts info8
  have q0 := hg.cell 0
  have q1 := hg.cell 1
  simp only [List.getElem?_toArray, List.getElem?_cons_zero, List.getElem?_cons_succ] at q0 q1
  have HG := hide hg
  have HX := hide hx
  have HY := hide hy
  have HN1 := hide hn1
  have HN2 := hide hn2
  clear hg hx hy hn1 hn2
  go_enter Try.func121, Try.ntmps121
  go_wp2
  go_loop [3, 11] (fun s i => ∃ k : Nat, k ≤ 2 ∧ i = .int .i64 k ∧ s = .int .i64 (pre2 xs.length ys.length k : Nat)) (fun _ i => 2 - (intOf i).toNat)
  case atStart => exact ⟨0, Nat.zero_le _, rfl, rfl⟩
  case round =>
    obtain ⟨k, hk, rfl, rfl⟩ := hrel
    have hk : k = 0 ∨ k = 1 ∨ k = 2 := by omega
    rcases hk with rfl | rfl | rfl
    · have e0 : pre2 xs.length ys.length 0 = 0 := rfl
      rw [e0]
      clear e0
      go_wp2
      go_round
      case rel => exact ⟨1, by omega, by go_num, by show _ = Value.int .i64 ((xs.length : Nat) : Int); go_num⟩
      case measure => simp [intOf]
    · have e0 : pre2 xs.length ys.length 1 = xs.length := rfl
      rw [e0]
      clear e0
      go_wp2
      go_round
      case rel => exact ⟨2, by omega, by go_num, by show _ = Value.int .i64 ((xs.length + ys.length : Nat) : Int); go_num⟩
      case measure => simp [intOf]
    · have e0 : pre2 xs.length ys.length 2 = xs.length + ys.length := rfl
      rw [e0]
      clear e0 q0 q1
      go_wp2_with fail
      have hgn := grow_nil (xs.length + ys.length) (by omega) w
      rw [Int.natCast_add] at hgn
      refine hgn.mono ?_
      rintro e w1 ⟨A0, c0, rfl, o1, b1⟩
      have HO1 := hide o1
      have HB1 := hide b1
      have HG1 := hide (HG.out.call b1)
      clear o1 b1 hgn
      go_wp2_with fail
      go_loopw [6, 27] (fun v i wr => ∃ (k : Nat) (A' : Option Addr) (n' c' : Nat), k ≤ 2 ∧ i = .int .i64 k ∧ v = .slice A' n' c' ∧ n' = pre2 xs.length ys.length k ∧ wr.ownsRow w.heap.size 5 1 (.slice A' n' c') n' (ints .u8 ((xs ++ ys).take (pre2 xs.length ys.length k))) ∧ Box wr g 22 #[.slice A1 xs.length c1, .slice A2 ys.length c2] ∧ Below w.heap.size w wr) (fun _ i _ => 2 - (intOf i).toNat)
      case atStart => exact ⟨0, A0, 0, c0, by omega, rfl, rfl, rfl, HO1.out, HG1.out, HB1.out⟩
      case round =>
        obtain ⟨k, A', n', c', hk, rfl, rfl, hn', ho, hg, hb⟩ := hrel
        have q0 := hg.cell 0
        have q1 := hg.cell 1
        simp only [List.getElem?_toArray, List.getElem?_cons_zero, List.getElem?_cons_succ] at q0 q1
        have HG := hide hg
        have HB := hide hb
        have hs := hb.size
        have HX := hide (HX.out.keep (w' := wr) (fun p hp => hb.cell (Nat.lt_of_lt_of_le hp hB)))
        have HY := hide (HY.out.keep (w' := wr) (fun p hp => hb.cell (Nat.lt_of_lt_of_le hp hB)))
        clear hg hb HO1 HB1 HG1
        have hk : k = 0 ∨ k = 1 ∨ k = 2 := by omega
        rcases hk with rfl | rfl | rfl
        · obtain rfl : n' = 0 := hn'
          have ho : wr.ownsRow w.heap.size 5 1 (.slice A' 0 c') 0 (ints .u8 []) := ho
          have HO := hide ho
          clear ho
          go_wp2_with (at_builtin; refine wpList_appR _ rfl (.tmp 31) (.tmp 32) 22 rfl w.heap.size 5 i0 (.int .u8 0) 1 1 Try.underlying22 hi hz0 hz1 hz2 rfl (by decide) _ _ _ _ rfl HX.out ?n0 HN1.out oneI _ _ _ rfl HO.out ?n1 ?n2 hs ?_)
          case n0 => simp
          case n1 => unfold maxLen; omega
          case n2 => omega
          intro A6 n6 c6 w6 hn6 o6 g6
          subst hn6
          have HO6 := hide o6
          have HB6 := hide (HB.out.grown g6 hs (fun k hk => (HO.out.lt k hk).1))
          have HG6 := hide (HG.out.grown g6 (own_box HO.out HG.out (by decide)))
          clear o6 g6 HO HG HB q0 q1
          go_wp2_with fail
          refine ⟨⟨1, A6, xs.length, c6, by omega, by go_num, rfl, rfl, ?_, HG6.out, HB6.out⟩, by simp [intOf]⟩
          have e : (xs ++ ys).take (pre2 xs.length ys.length 1) = xs := by show (xs ++ ys).take xs.length = xs; simp
          rw [e]
          exact HO6.out
        · obtain rfl : n' = xs.length := hn'
          have e : (xs ++ ys).take (pre2 xs.length ys.length 1) = xs := by show (xs ++ ys).take xs.length = xs; simp
          rw [e] at ho
          have HO := hide ho
          clear ho e
          go_wp2_with (at_builtin; refine wpList_appR _ rfl (.tmp 31) (.tmp 32) 22 rfl w.heap.size 5 i0 (.int .u8 0) 1 1 Try.underlying22 hi hz0 hz1 hz2 rfl (by decide) _ _ _ _ rfl HY.out ?n0 HN2.out oneI _ _ _ rfl HO.out ?n1 ?n2 hs ?_)
          case n0 => simp
          case n1 => unfold maxLen; omega
          case n2 => omega
          intro A6 n6 c6 w6 hn6 o6 g6
          subst hn6
          rw [ints_app] at o6
          have HO6 := hide o6
          have HB6 := hide (HB.out.grown g6 hs (fun k hk => (HO.out.lt k hk).1))
          have HG6 := hide (HG.out.grown g6 (own_box HO.out HG.out (by decide)))
          clear o6 g6 HO HG HB q0 q1
          go_wp2_with fail
          refine ⟨⟨2, A6, xs.length + ys.length, c6, by omega, by go_num, rfl, rfl, ?_, HG6.out, HB6.out⟩, by simp [intOf]⟩
          have e : (xs ++ ys).take (pre2 xs.length ys.length 2) = xs ++ ys := by show (xs ++ ys).take (xs.length + ys.length) = xs ++ ys; rw [← List.length_append, List.take_length]
          rw [e]
          exact HO6.out
        · obtain rfl : n' = xs.length + ys.length := hn'
          have e : (xs ++ ys).take (pre2 xs.length ys.length 2) = xs ++ ys := by show (xs ++ ys).take (xs.length + ys.length) = xs ++ ys; rw [← List.length_append, List.take_length]
          rw [e] at ho
          have HO := hide ho
          clear ho e q0 q1
          go_wp2_with fail
          go_ret
          exact RetInts.mk (by simp) HO.out HB.out
/-- slices.Clone of a []byte that is not nil, or nil. -/
theorem clone_any (A : Option Addr) (xs : List Int) (c B : Nat) (w : World) (hx : Rd w B A (ints .u8 xs)) (hB : B ≤ w.heap.size) (hxm : xs.length ≤ 1048576) (hnil : A = none → c = 0) :
    Calls Try.prog 124 #[.slice A xs.length c] w (RetInts 5 .u8 xs w) := by
  obtain ⟨i0, hi, hz0, hz1, hz2⟩ := info_parts info8
  have hq := fun W => Lib.run_eql_slice_nil (P := Try.prog) W 22 5 A xs.length c 0 0 Try.underlying22
  cases A with
  | none =>
    have hxs : xs = [] := by
      cases xs with
      | nil => rfl
      | cons u r =>
        obtain ⟨b, off, e', _⟩ := hx 0 (.int .u8 u) rfl
        cases e'
    subst hxs
    have hc := hnil rfl
    subst hc
    clear hnil hx
    simp only [Option.isNone_none, List.length_nil] at hq
    show Calls _ _ #[.slice none 0 0] _ _
    go_enter Try.func124, Try.ntmps124
    go_wp2_with fail
    go_ret
    exact RetInts.nil (Below.refl _ _)
  | some ad =>
    have HX := hide ((hx.more hB).below ((Below.refl _ _).alloc (Nat.le_refl _) (.cells #[] 5)))
    have HO := hide (own_empty (w := w) (E := 5))
    have HB : Hid (Below w.heap.size w (w.alloc (.cells #[] 5))) := (by repeat (first | exact Below.refl _ _ | with_reducible assumption | (refine Below.drew ?_) | (refine Below.drewN ?_ _) | (refine Below.alloc ?_ (by simp; try omega) _) | (refine Below.setCell ?_ (by simp; try omega) _)))
    simp only [Option.isNone_some] at hq
    clear hx hnil
    go_enter Try.func124, Try.ntmps124
    go_wp2_with (at_builtin; refine wpList_appR _ rfl (.tmp 5) (.tmp 6) 22 rfl w.heap.size 5 i0 (.int .u8 0) 1 1 Try.underlying22 hi hz0 hz1 hz2 rfl (by decide) _ _ _ _ rfl HX.out ?n0 ?nn oneI _ _ _ rfl HO.out ?n1 ?n2 HB.out.size ?_)
    case n0 => simp
    case nn => intro h; cases h
    case n1 => unfold maxLen; omega
    case n2 => omega
    intro A6 n6 c6 w6 hn6 o6 g6
    have hn6 : n6 = xs.length := by omega
    have HO6 := hide o6
    have HB6 := hide (HB.out.grown g6 HB.out.size (fun k hk => (HO.out.lt k hk).1))
    clear o6 g6
    have HN6 := hide hn6
    clear hn6
    go_wp2_with fail
    go_ret
    exact RetInts.mk HN6.out HO6.out HB6.out
end Go.Proofs.Ytndnmbhhfiacaaa.CConcat
