/- Contracts of the laws' helpers on Fixup: the copy, the comparison of equal data, the marks. Written by a program. -/
import Derived.Test.YtmglgjchemecjaaGreatFnExactLandmarksOfM1
import Derived.Test.YtmglgjchemecjaaGreatRows
import Derived.StillTailTactics
import Derived.Deep.QuietTactic
import Derived.BigQuiet
import Derived.Laws.BytesArg
import Derived.Lib.Bytes
import Derived.Lib.ItoaNum
import Derived.Lib.ItoaLen
import Derived.Deep.CutRange
import Derived.Deep.RegionHeld
set_option linter.unusedSimpArgs false
set_option linter.unusedVariables false
namespace Go.Proofs.YtmglgjchemecjaaGreat.CFixups
set_option maxRecDepth 200000
open Go.ChangeShapes Go.WideShapes Go.ChangeAt Go.RowKit Kit
theorem info : (Tryz.prog.info? 80).map (fun i => (i.zero, i.size, i.bytes)) = some (some (.agg #[.int .i64 0, .int .i64 0, .int .i64 0, .int .i64 0]), 4, 32) := by kernel_rfl
abbrev D := Int × Int × Int × Int
def fixupC (r : D) : List Value := [.int .i64 r.1, .int .i64 r.2.1, .int .i64 r.2.2.1, .int .i64 r.2.2.2]
theorem fixupC_len (r : D) : (fixupC r).length = 4 := rfl
theorem toFixup_any (z : D) (w : World) : Calls Tryz.prog 159 #[.agg #[.int .i64 z.1, .int .i64 z.2.1, .int .i64 z.2.2.1, .int .i64 z.2.2.2]] w (Ret (.agg #[.int .i64 z.1, .int .i64 z.2.1, .int .i64 z.2.2.1, .int .i64 z.2.2.2]) w) := by
  go_enter Tryz.func159, Tryz.ntmps159
  go_wp2
  exact bodyPost_ret (v := .agg #[.int .i64 z.1, .int .i64 z.2.1, .int .i64 z.2.2.1, .int .i64 z.2.2.2]) (by simp [results, Tryz.results159, go_sem]) rfl ⟨rfl, (by repeat (first | exact Below.refl _ _ | with_reducible assumption | (refine Below.drew ?_) | (refine Below.drewN ?_ _) | (refine Below.alloc ?_ (by simp; try omega) _) | (refine Below.setCell ?_ (by simp; try omega) _)))⟩
theorem toFixupS_any (A : Option Addr) (zs : List D) (c : Nat) (w : World) (hr : Rd w w.heap.size A (cellsOf fixupC zs)) (hm : zs.length ≤ 1048576) :
    Calls Tryz.prog 142 #[.slice A zs.length c] w fun e w' => ∃ A' c', e = .returned (.slice A' zs.length c') ∧ w'.ownsRow w.heap.size 80 4 (.slice A' zs.length c') zs.length (cellsOf fixupC zs) ∧ Below w.heap.size w w' := by
  obtain ⟨i0, hi, hz0, hz1, hz2⟩ := info_parts info
  go_enter Tryz.func142, Tryz.ntmps142
  go_wp2_with (at_make; refine wpList_make_full _ rfl _ _ _ rfl w.heap.size 80 i0 (.agg #[.int .i64 0, .int .i64 0, .int .i64 0, .int .i64 0]) 4 Tryz.underlying75 hi hz0 hz1 .i64 .i64 _ _ zs.length rfl rfl rfl rfl ?c1 ?c2 ?c3 ?_)
  case c1 => rw [hz2]; omega
  case c2 => unfold maxLen; omega
  case c3 => exact Nat.le_refl _
  intro w1 hown hg
  have hb1 : Below w.heap.size w w1 := (Below.refl _ _).grown hg (Nat.le_refl _) (by intro k h; cases h)
  clear hg
  have hown1 : ∃ xs, w1.ownsRow w.heap.size 80 4 (.slice (some ⟨w.heap.size, 0, none⟩) zs.length zs.length) zs.length xs := ⟨_, hown⟩
  clear hown
  go_wp2
  go_loopw [4] (fun i wr => ∃ k : Nat, k ≤ zs.length ∧ i = .int .i64 k ∧ (∃ xs, wr.ownsRow w.heap.size 80 4 (.slice (some ⟨w.heap.size, 0, none⟩) zs.length zs.length) zs.length (cellsOf fixupC (zs.take k) ++ xs)) ∧ Below w.heap.size w wr) (fun i _ => zs.length - (intOf i).toNat)
  case atStart => exact ⟨0, Nat.zero_le _, rfl, by simpa [cellsOf] using hown1, hb1⟩
  case round =>
    obtain ⟨k, hk, rfl, ⟨xs, ho⟩, hb⟩ := hrel
    clear hown1 hb1
    by_cases hlt : k < zs.length
    · obtain ⟨b, off, rfl, hbg, hc⟩ := (hr.below hb).row fixupC_len (by decide) hlt
      have hc0 := hc 0 _ rfl
      have hc1 := hc 1 _ rfl
      have hc2 := hc 2 _ rfl
      have hc3 := hc 3 _ rfl
      simp only [Nat.add_zero] at hc0
      have hl := ho.1
      have HO := hide ho
      have HB := hide hb
      clear hr ho hb hc
      go_wp2_with fail
      refine (toFixup_any _ _).mono ?_
      rintro e w2 ⟨rfl, hb2⟩
      have ho := own_call hb2 HO.out
      have hb' := HB.out.trans (hb2.mono HB.out.size)
      obtain ⟨⟨old0, hk0⟩, hfz0⟩ := own_old ho (j := k * 4) (by omega)
      obtain ⟨⟨old1, hk1⟩, hfz1⟩ := own_old ho (j := k * 4 + 1) (by omega)
      obtain ⟨⟨old2, hk2⟩, hfz2⟩ := own_old ho (j := k * 4 + 2) (by omega)
      obtain ⟨⟨old3, hk3⟩, hfz3⟩ := own_old ho (j := k * 4 + 3) (by omega)
      have hpl : (cellsOf fixupC (zs.take k)).length = k * 4 := by rw [cellsOf_len fixupC_len, List.length_take]; omega
      have ho1 := own_put ho hpl (by omega) (.int .i64 zs[k].1)
      have ho2 := own_put ho1 (j := k * 4 + 1) (by simp only [List.length_append, hpl]; rfl) (by omega) (.int .i64 zs[k].2.1)
      have ho3 := own_put ho2 (j := k * 4 + 2) (by simp only [List.length_append, hpl]; rfl) (by omega) (.int .i64 zs[k].2.2.1)
      have ho4 := own_put ho3 (j := k * 4 + 3) (by simp only [List.length_append, hpl]; rfl) (by omega) (.int .i64 zs[k].2.2.2)
      have HO' := hide ho4
      have HB' := hide hb'
      have HT := hide (take_succ hlt)
      generalize zs[k] = z at *
      clear ho ho1 ho2 ho3 ho4 hpl hb' HO HB hb2
      go_wp2_with fail
      refine ⟨⟨k + 1, by omega, by go_num, ⟨xs.tail.tail.tail.tail, ?_⟩, ?_⟩, by simp [intOf]; omega⟩
      · rw [HT.out]
        simpa [cellsOf, fixupC] using HO'.out
      · exact (Below.setCell (Below.setCell (Below.setCell (Below.setCell HB'.out (Nat.le_refl _) _) (Nat.le_refl _) _) (Nat.le_refl _) _) (Nat.le_refl _) _)
    · have e : k = zs.length := by omega
      subst e
      have hxs : xs = [] := by
        have := ho.1
        rw [List.take_length, List.length_append, cellsOf_len fixupC_len] at this
        exact List.eq_nil_of_length_eq_zero (by omega)
      subst hxs
      rw [List.take_length, List.append_nil] at ho
      clear hr
      go_wp2
      go_ret
      exact ⟨_, _, rfl, ho, hb⟩
theorem eqFixup_same (x : D) (w : World) : Calls Tryz.prog 165 #[.agg #[.int .i64 x.1, .int .i64 x.2.1, .int .i64 x.2.2.1, .int .i64 x.2.2.2], .agg #[.int .i64 x.1, .int .i64 x.2.1, .int .i64 x.2.2.1, .int .i64 x.2.2.2]] w (Ret (.bool true) w) := by
  go_enter Tryz.func165, Tryz.ntmps165
  go_wp2
  go_ret
  exact ⟨rfl, (by repeat (first | exact Below.refl _ _ | with_reducible assumption | (refine Below.drew ?_) | (refine Below.drewN ?_ _) | (refine Below.alloc ?_ (by simp; try omega) _) | (refine Below.setCell ?_ (by simp; try omega) _)))⟩
set_option maxRecDepth 20000 in
theorem eqFixupS_same (A A' : Option Addr) (xs : List D) (c c' : Nat) (w : World) (hr : Rd w w.heap.size A (cellsOf fixupC xs)) (hr' : Rd w w.heap.size A' (cellsOf fixupC xs)) (hm : xs.length ≤ maxLen) :
    Calls Tryz.prog 147 #[.slice A xs.length c, .slice A' xs.length c'] w (Ret (.bool true) w) := by
  unfold maxLen at hm
  have h0 : (((xs.length : Nat) : Int) != (xs.length : Nat)) = false := by simp
  go_enter Tryz.func147, Tryz.ntmps147
  go_wp2
  clear h0
  go_loopw [5] (fun i wr => ∃ k : Nat, k ≤ xs.length ∧ i = .int .i64 k ∧ Below w.heap.size w wr) (fun i _ => xs.length - (intOf i).toNat)
  case atStart => exact ⟨0, Nat.zero_le _, rfl, Below.refl _ _⟩
  case round =>
    obtain ⟨k, hk, rfl, hb⟩ := hrel
    have HB := hide hb
    by_cases hlt : k < xs.length
    · obtain ⟨b, off, rfl, _, hc⟩ := (hr.below hb).row fixupC_len (by decide) hlt
      obtain ⟨b', off', rfl, _, hd⟩ := (hr'.below hb).row fixupC_len (by decide) hlt
      have hc0 := hc 0 _ rfl
      have hd0 := hd 0 _ rfl
      have hc1 := hc 1 _ rfl
      have hd1 := hd 1 _ rfl
      have hc2 := hc 2 _ rfl
      have hd2 := hd 2 _ rfl
      have hc3 := hc 3 _ rfl
      have hd3 := hd 3 _ rfl
      simp only [Nat.add_zero] at hc0 hd0
      clear hr hr' hc hd hb
      generalize xs[k] = x at *
      go_wp2_with fail
      go_still_tail 8, (by kernel_rfl)
      change wpList _ _ _ _ _ wr.drew
      clear hc0 hd0 hc1 hd1 hc2 hd2 hc3 hd3
      go_wp2_with fail
      refine (eqFixup_same _ _).mono ?_
      rintro e w2 ⟨rfl, hb2⟩
      have HB' := hide (HB.out.trans ((of_drew hb2).mono HB.out.size))
      clear hb2
      go_wp2_with fail
      go_roundw
      case rel => exact ⟨k + 1, by omega, by go_num, HB'.out⟩
      case measure => simp [intOf]; omega
    · clear hr hr'
      go_wp2_with fail
      go_ret
      exact ⟨rfl, HB.out⟩

def marks (k0 : Int) (m : Nat) : List D := (List.range m).map fun (i : Nat) => (k0 + 4 * (i : Int), k0 + 4 * (i : Int) + 1, k0 + 4 * (i : Int) + 1 + 1, k0 + 4 * (i : Int) + 1 + 1 + 1)
theorem marks_len (k0 : Int) (m : Nat) : (marks k0 m).length = m := by simp [marks]
theorem marks_at (k0 : Int) (m i : Nat) (h : i < m) : (marks k0 m)[i]'(by rw [marks_len]; exact h) = (k0 + 4 * (i : Int), k0 + 4 * (i : Int) + 1, k0 + 4 * (i : Int) + 1 + 1, k0 + 4 * (i : Int) + 1 + 1 + 1) := by simp [marks]
theorem marks_succ (k0 : Int) (i : Nat) : marks k0 (i + 1) = marks k0 i ++ [(k0 + 4 * (i : Int), k0 + 4 * (i : Int) + 1, k0 + 4 * (i : Int) + 1 + 1, k0 + 4 * (i : Int) + 1 + 1 + 1)] := by simp [marks, List.range_succ]
theorem mark_any (base : Nat) (A : Option Addr) (c m : Nat) (cs : List Value) (k0 : Int) (w : World) (h0 : 0 ≤ k0) (hk0 : k0 ≤ 4294967296) (hm : m ≤ 4294967296)
    (hown : w.ownsRow base 80 4 (.slice A m c) m cs) :
    Calls Tryz.prog 134 #[.slice A m c, .int .i64 k0] w fun e w' => e = .returned (.int .i64 (k0 + 4 * m)) ∧ w'.ownsRow base 80 4 (.slice A m c) m (cellsOf fixupC (marks k0 m)) ∧ w.grownBy w' (Value.slice A m c).ownBlock := by
  go_enter Tryz.func134, Tryz.ntmps134
  go_wp2
  have hg0 := World.grownBy.refl w (Value.slice A m c).ownBlock
  go_loopw [1, 5] (fun k i wr => ∃ j : Nat, j ≤ m ∧ i = .int .i64 j ∧ k = .int .i64 (k0 + 4 * j) ∧ (∃ xs, wr.ownsRow base 80 4 (.slice A m c) m (cellsOf fixupC (marks k0 j) ++ xs)) ∧ w.grownBy wr (Value.slice A m c).ownBlock) (fun _ i _ => m - (intOf i).toNat)
  case atStart => exact ⟨0, Nat.zero_le _, rfl, by simp, ⟨cs, by simpa [marks, cellsOf] using hown⟩, hg0⟩
  case round =>
    obtain ⟨j, hj, rfl, rfl, ⟨xs, ho⟩, hg⟩ := hrel
    clear hown hg0
    by_cases hlt : j < m
    · have hform : ∃ g, A = some ⟨g, 0, none⟩ := by
        rcases ho.2 with ⟨hv, h0⟩ | ⟨g, cap, cur, hv, _⟩
        · omega
        · injection hv with hA
          exact ⟨g, hA⟩
      obtain ⟨g, rfl⟩ := hform
      obtain ⟨⟨old0, hk0⟩, hfz0⟩ := own_old ho (j := j * 4) (by omega)
      obtain ⟨⟨old1, hk1⟩, hfz1⟩ := own_old ho (j := j * 4 + 1) (by omega)
      obtain ⟨⟨old2, hk2⟩, hfz2⟩ := own_old ho (j := j * 4 + 2) (by omega)
      obtain ⟨⟨old3, hk3⟩, hfz3⟩ := own_old ho (j := j * 4 + 3) (by omega)
      have hpl : (cellsOf fixupC (marks k0 j)).length = j * 4 := by rw [cellsOf_len fixupC_len, marks_len]
      have ho1 := own_put ho hpl (by omega) (.int .i64 (k0 + 4 * (j : Int)))
      have hg1 := grown_put (u := .int .i64 (k0 + 4 * (j : Int))) (j := j * 4) hg
      have ho2 := own_put ho1 (j := j * 4 + 1) (by simp only [List.length_append, hpl]; rfl) (by omega) (.int .i64 (k0 + 4 * (j : Int) + 1))
      have hg2 := grown_put (u := .int .i64 (k0 + 4 * (j : Int) + 1)) (j := j * 4 + 1) hg1
      have ho3 := own_put ho2 (j := j * 4 + 2) (by simp only [List.length_append, hpl]; rfl) (by omega) (.int .i64 (k0 + 4 * (j : Int) + 1 + 1))
      have hg3 := grown_put (u := .int .i64 (k0 + 4 * (j : Int) + 1 + 1)) (j := j * 4 + 2) hg2
      have ho4 := own_put ho3 (j := j * 4 + 3) (by simp only [List.length_append, hpl]; rfl) (by omega) (.int .i64 (k0 + 4 * (j : Int) + 1 + 1 + 1))
      have hg4 := grown_put (u := .int .i64 (k0 + 4 * (j : Int) + 1 + 1 + 1)) (j := j * 4 + 3) hg3
      have HH := hide (And.intro ho4 hg4)
      have E1 := hide (show k0 + 4 * (j : Int) + 1 + 1 + 1 + 1 = k0 + 4 * ((j + 1 : Nat) : Int) by omega)
      clear ho1 hg1 ho2 hg2 ho3 hg3 ho4 hg4 ho hg hpl
      go_wp2
      refine ⟨⟨j + 1, by omega, by go_num, by rw [E1.out], ⟨xs.tail.tail.tail.tail, ?_⟩, HH.out.2⟩, by simp [intOf]; omega⟩
      rw [marks_succ]
      simpa [cellsOf, fixupC] using HH.out.1
    · have e : j = m := by omega
      subst e
      have hxs : xs = [] := by
        have := ho.1
        rw [List.length_append, cellsOf_len fixupC_len, marks_len] at this
        exact List.eq_nil_of_length_eq_zero (by omega)
      subst hxs
      rw [List.append_nil] at ho
      go_wp2
      go_ret
      exact ⟨rfl, ho, hg⟩
end Go.Proofs.YtmglgjchemecjaaGreat.CFixups
/- Contracts of the laws' helpers on Symbol: the copy, the comparison of equal data, the marks. Written by a program. -/
namespace Go.Proofs.YtmglgjchemecjaaGreat.CSymbols
set_option maxRecDepth 200000
open Go.ChangeShapes Go.WideShapes Go.ChangeAt Go.RowKit Kit
theorem info : (Tryz.prog.info? 69).map (fun i => (i.zero, i.size, i.bytes)) = some (some (.agg #[.string ByteArray.empty, .int .i64 0, .int .i64 0, .int .i64 0]), 4, 40) := by kernel_rfl
abbrev D := ByteArray × Int × Int × Int
def symbolC (r : D) : List Value := [.string r.1, .int .i64 r.2.1, .int .i64 r.2.2.1, .int .i64 r.2.2.2]
theorem symbolC_len (r : D) : (symbolC r).length = 4 := rfl
theorem toSymbol_any (z : D) (w : World) : Calls Tryz.prog 90 #[.agg #[.string z.1, .int .i64 z.2.1, .int .i64 z.2.2.1, .int .i64 z.2.2.2]] w (Ret (.agg #[.string z.1, .int .i64 z.2.1, .int .i64 z.2.2.1, .int .i64 z.2.2.2]) w) := by
  go_enter Tryz.func90, Tryz.ntmps90
  go_wp2
  exact bodyPost_ret (v := .agg #[.string z.1, .int .i64 z.2.1, .int .i64 z.2.2.1, .int .i64 z.2.2.2]) (by simp [results, Tryz.results90, go_sem]) rfl ⟨rfl, (by repeat (first | exact Below.refl _ _ | with_reducible assumption | (refine Below.drew ?_) | (refine Below.drewN ?_ _) | (refine Below.alloc ?_ (by simp; try omega) _) | (refine Below.setCell ?_ (by simp; try omega) _)))⟩
theorem toSymbolS_any (A : Option Addr) (zs : List D) (c : Nat) (w : World) (hr : Rd w w.heap.size A (cellsOf symbolC zs)) (hm : zs.length ≤ 1048576) :
    Calls Tryz.prog 34 #[.slice A zs.length c] w fun e w' => ∃ A' c', e = .returned (.slice A' zs.length c') ∧ w'.ownsRow w.heap.size 69 4 (.slice A' zs.length c') zs.length (cellsOf symbolC zs) ∧ Below w.heap.size w w' := by
  obtain ⟨i0, hi, hz0, hz1, hz2⟩ := info_parts info
  go_enter Tryz.func34, Tryz.ntmps34
  go_wp2_with (at_make; refine wpList_make_full _ rfl _ _ _ rfl w.heap.size 69 i0 (.agg #[.string ByteArray.empty, .int .i64 0, .int .i64 0, .int .i64 0]) 4 Tryz.underlying29 hi hz0 hz1 .i64 .i64 _ _ zs.length rfl rfl rfl rfl ?c1 ?c2 ?c3 ?_)
  case c1 => rw [hz2]; omega
  case c2 => unfold maxLen; omega
  case c3 => exact Nat.le_refl _
  intro w1 hown hg
  have hb1 : Below w.heap.size w w1 := (Below.refl _ _).grown hg (Nat.le_refl _) (by intro k h; cases h)
  clear hg
  have hown1 : ∃ xs, w1.ownsRow w.heap.size 69 4 (.slice (some ⟨w.heap.size, 0, none⟩) zs.length zs.length) zs.length xs := ⟨_, hown⟩
  clear hown
  go_wp2
  go_loopw [4] (fun i wr => ∃ k : Nat, k ≤ zs.length ∧ i = .int .i64 k ∧ (∃ xs, wr.ownsRow w.heap.size 69 4 (.slice (some ⟨w.heap.size, 0, none⟩) zs.length zs.length) zs.length (cellsOf symbolC (zs.take k) ++ xs)) ∧ Below w.heap.size w wr) (fun i _ => zs.length - (intOf i).toNat)
  case atStart => exact ⟨0, Nat.zero_le _, rfl, by simpa [cellsOf] using hown1, hb1⟩
  case round =>
    obtain ⟨k, hk, rfl, ⟨xs, ho⟩, hb⟩ := hrel
    clear hown1 hb1
    by_cases hlt : k < zs.length
    · obtain ⟨b, off, rfl, hbg, hc⟩ := (hr.below hb).row symbolC_len (by decide) hlt
      have hc0 := hc 0 _ rfl
      have hc1 := hc 1 _ rfl
      have hc2 := hc 2 _ rfl
      have hc3 := hc 3 _ rfl
      simp only [Nat.add_zero] at hc0
      have hl := ho.1
      have HO := hide ho
      have HB := hide hb
      clear hr ho hb hc
      go_wp2_with fail
      refine (toSymbol_any _ _).mono ?_
      rintro e w2 ⟨rfl, hb2⟩
      have ho := own_call hb2 HO.out
      have hb' := HB.out.trans (hb2.mono HB.out.size)
      obtain ⟨⟨old0, hk0⟩, hfz0⟩ := own_old ho (j := k * 4) (by omega)
      obtain ⟨⟨old1, hk1⟩, hfz1⟩ := own_old ho (j := k * 4 + 1) (by omega)
      obtain ⟨⟨old2, hk2⟩, hfz2⟩ := own_old ho (j := k * 4 + 2) (by omega)
      obtain ⟨⟨old3, hk3⟩, hfz3⟩ := own_old ho (j := k * 4 + 3) (by omega)
      have hpl : (cellsOf symbolC (zs.take k)).length = k * 4 := by rw [cellsOf_len symbolC_len, List.length_take]; omega
      have ho1 := own_put ho hpl (by omega) (.string zs[k].1)
      have ho2 := own_put ho1 (j := k * 4 + 1) (by simp only [List.length_append, hpl]; rfl) (by omega) (.int .i64 zs[k].2.1)
      have ho3 := own_put ho2 (j := k * 4 + 2) (by simp only [List.length_append, hpl]; rfl) (by omega) (.int .i64 zs[k].2.2.1)
      have ho4 := own_put ho3 (j := k * 4 + 3) (by simp only [List.length_append, hpl]; rfl) (by omega) (.int .i64 zs[k].2.2.2)
      have HO' := hide ho4
      have HB' := hide hb'
      have HT := hide (take_succ hlt)
      generalize zs[k] = z at *
      clear ho ho1 ho2 ho3 ho4 hpl hb' HO HB hb2
      go_wp2_with fail
      refine ⟨⟨k + 1, by omega, by go_num, ⟨xs.tail.tail.tail.tail, ?_⟩, ?_⟩, by simp [intOf]; omega⟩
      · rw [HT.out]
        simpa [cellsOf, symbolC] using HO'.out
      · exact (Below.setCell (Below.setCell (Below.setCell (Below.setCell HB'.out (Nat.le_refl _) _) (Nat.le_refl _) _) (Nat.le_refl _) _) (Nat.le_refl _) _)
    · have e : k = zs.length := by omega
      subst e
      have hxs : xs = [] := by
        have := ho.1
        rw [List.take_length, List.length_append, cellsOf_len symbolC_len] at this
        exact List.eq_nil_of_length_eq_zero (by omega)
      subst hxs
      rw [List.take_length, List.append_nil] at ho
      clear hr
      go_wp2
      go_ret
      exact ⟨_, _, rfl, ho, hb⟩
theorem eqSymbol_same (x : D) (w : World) : Calls Tryz.prog 98 #[.agg #[.string x.1, .int .i64 x.2.1, .int .i64 x.2.2.1, .int .i64 x.2.2.2], .agg #[.string x.1, .int .i64 x.2.1, .int .i64 x.2.2.1, .int .i64 x.2.2.2]] w (Ret (.bool true) w) := by
  go_enter Tryz.func98, Tryz.ntmps98
  go_wp2
  go_ret
  exact ⟨rfl, (by repeat (first | exact Below.refl _ _ | with_reducible assumption | (refine Below.drew ?_) | (refine Below.drewN ?_ _) | (refine Below.alloc ?_ (by simp; try omega) _) | (refine Below.setCell ?_ (by simp; try omega) _)))⟩
set_option maxRecDepth 20000 in
theorem eqSymbolS_same (A A' : Option Addr) (xs : List D) (c c' : Nat) (w : World) (hr : Rd w w.heap.size A (cellsOf symbolC xs)) (hr' : Rd w w.heap.size A' (cellsOf symbolC xs)) (hm : xs.length ≤ maxLen) :
    Calls Tryz.prog 38 #[.slice A xs.length c, .slice A' xs.length c'] w (Ret (.bool true) w) := by
  unfold maxLen at hm
  have h0 : (((xs.length : Nat) : Int) != (xs.length : Nat)) = false := by simp
  go_enter Tryz.func38, Tryz.ntmps38
  go_wp2
  clear h0
  go_loopw [5] (fun i wr => ∃ k : Nat, k ≤ xs.length ∧ i = .int .i64 k ∧ Below w.heap.size w wr) (fun i _ => xs.length - (intOf i).toNat)
  case atStart => exact ⟨0, Nat.zero_le _, rfl, Below.refl _ _⟩
  case round =>
    obtain ⟨k, hk, rfl, hb⟩ := hrel
    have HB := hide hb
    by_cases hlt : k < xs.length
    · obtain ⟨b, off, rfl, _, hc⟩ := (hr.below hb).row symbolC_len (by decide) hlt
      obtain ⟨b', off', rfl, _, hd⟩ := (hr'.below hb).row symbolC_len (by decide) hlt
      have hc0 := hc 0 _ rfl
      have hd0 := hd 0 _ rfl
      have hc1 := hc 1 _ rfl
      have hd1 := hd 1 _ rfl
      have hc2 := hc 2 _ rfl
      have hd2 := hd 2 _ rfl
      have hc3 := hc 3 _ rfl
      have hd3 := hd 3 _ rfl
      simp only [Nat.add_zero] at hc0 hd0
      clear hr hr' hc hd hb
      generalize xs[k] = x at *
      go_wp2_with fail
      go_still_tail 8, (by kernel_rfl)
      change wpList _ _ _ _ _ wr.drew
      clear hc0 hd0 hc1 hd1 hc2 hd2 hc3 hd3
      go_wp2_with fail
      refine (eqSymbol_same _ _).mono ?_
      rintro e w2 ⟨rfl, hb2⟩
      have HB' := hide (HB.out.trans ((of_drew hb2).mono HB.out.size))
      clear hb2
      go_wp2_with fail
      go_roundw
      case rel => exact ⟨k + 1, by omega, by go_num, HB'.out⟩
      case measure => simp [intOf]; omega
    · clear hr hr'
      go_wp2_with fail
      go_ret
      exact ⟨rfl, HB.out⟩
end Go.Proofs.YtmglgjchemecjaaGreat.CSymbols
/- Objects as values: their sections and symbols, where these lie, and the plain data. -/
namespace Go.Proofs.YtmglgjchemecjaaGreat.PObj
set_option maxRecDepth 200000
open Go.ChangeShapes Go.WideShapes Go.ChangeAt Go.RowKit Kit CFixups CSymbols
abbrev FD := CFixups.D
abbrev YD := CSymbols.D
/-- A section as a value: name, kind, align, where its bytes lie, size, where its fixups lie. -/
structure SV where
  nm : ByteArray
  kd : Int
  al : Int
  A : Option Addr
  c : Nat
  zs : List Int
  sz : Int
  F : Option Addr
  fc : Nat
  fs : List FD
/-- .. and its data. -/
structure SD where
  nm : ByteArray
  kd : Int
  al : Int
  zs : List Int
  sz : Int
  fs : List FD
def SV.d (p : SV) : SD := ⟨p.nm, p.kd, p.al, p.zs, p.sz, p.fs⟩
def secC (p : SV) : List Value := [.string p.nm, .int .i64 p.kd, .int .i64 p.al, .slice p.A p.zs.length p.c, .int .i64 p.sz, .slice p.F p.fs.length p.fc]
theorem secC_len (p : SV) : (secC p).length = 6 := rfl
/-- An object as a value. -/
structure OV where
  A : Option Addr
  c : Nat
  ps : List SV
  Y : Option Addr
  yc : Nat
  ys : List YD
structure OD where
  ss : List SD
  ys : List YD
def OV.d (o : OV) : OD := ⟨o.ps.map SV.d, o.ys⟩
def OV.v (o : OV) : Value := .agg #[.slice o.A o.ps.length o.c, .slice o.Y o.ys.length o.yc]
/-- What all counts as for the laws' sizes. -/
def wt (d : SD) : Int := d.nm.size + d.zs.length + d.fs.length
def tot : List SD → Int
  | [] => 0
  | d :: ds => wt d + tot ds
theorem wt_nonneg (d : SD) : 0 ≤ wt d := by unfold wt; omega
theorem tot_nonneg : ∀ ds, 0 ≤ tot ds
  | [] => Int.le_refl 0
  | d :: ds => by
    have := tot_nonneg ds
    have := wt_nonneg d
    simp only [tot]
    omega
theorem tot_mem : ∀ (ds : List SD) (d : SD), d ∈ ds → wt d ≤ tot ds
  | [], d, h => by simp at h
  | e :: ds, d, h => by
    have := tot_nonneg ds
    have := wt_nonneg e
    simp only [tot]
    rcases List.mem_cons.1 h with rfl | h
    · omega
    · have := tot_mem ds d h
      omega
theorem tot_drop {ds : List SD} {k : Nat} (h : k < ds.length) : tot (ds.drop k) = wt ds[k] + tot (ds.drop (k + 1)) := by
  rw [List.drop_eq_getElem_cons h]
  rfl
theorem tot_drop_le : ∀ (ds : List SD) (k : Nat), tot (ds.drop k) ≤ tot ds
  | [], k => by simp [tot]
  | d :: ds, 0 => Int.le_refl _
  | d :: ds, k + 1 => by
    have := tot_drop_le ds k
    have := wt_nonneg d
    simp only [List.drop_succ_cons, tot]
    omega
def toty : List YD → Int
  | [] => 0
  | d :: ds => d.1.size + toty ds
theorem toty_nonneg : ∀ ds, 0 ≤ toty ds
  | [] => Int.le_refl 0
  | d :: ds => by
    have := toty_nonneg ds
    simp only [toty]
    omega
theorem toty_mem : ∀ (ds : List YD) (d : YD), d ∈ ds → (d.1.size : Int) ≤ toty ds
  | [], d, h => by simp at h
  | e :: ds, d, h => by
    have := toty_nonneg ds
    simp only [toty]
    rcases List.mem_cons.1 h with rfl | h
    · omega
    · have := toty_mem ds d h
      omega
theorem toty_drop {ds : List YD} {k : Nat} (h : k < ds.length) : toty (ds.drop k) = ds[k].1.size + toty (ds.drop (k + 1)) := by
  rw [List.drop_eq_getElem_cons h]
  rfl
theorem toty_drop_le : ∀ (ds : List YD) (k : Nat), toty (ds.drop k) ≤ toty ds
  | [], k => by simp [toty]
  | d :: ds, 0 => Int.le_refl _
  | d :: ds, k + 1 => by
    have := toty_drop_le ds k
    simp only [List.drop_succ_cons, toty]
    omega
end Go.Proofs.YtmglgjchemecjaaGreat.PObj
/- What turns, block by block. -/
namespace Go.Proofs.YtmglgjchemecjaaGreat.Kit
set_option maxRecDepth 200000
open Go.ChangeShapes Go.WideShapes Go.ChangeAt Go.RowKit
/-- From w to w' nothing that was there has turned but the blocks of p. -/
structure Gp (p : Nat → Prop) (w w' : World) : Prop where
  os : w'.os = w.os
  tape : w'.tape = w.tape
  output : w'.output = w.output
  size : w.heap.size ≤ w'.heap.size
  block : ∀ k, k < w.heap.size → ¬ p k → w'.heap[k]? = w.heap[k]?
section
variable {p q : Nat → Prop} {w w' w'' : World}
theorem Gp.refl (p : Nat → Prop) (w : World) : Gp p w w := ⟨rfl, rfl, rfl, Nat.le_refl _, fun _ _ _ => rfl⟩
theorem Gp.of_below (h : Below w.heap.size w w') : Gp p w w' := ⟨h.os, h.tape, h.output, h.size, fun k hk _ => h.block k hk⟩
theorem Gp.of_grown {v : Option Nat} (h : w.grownBy w' v) (hv : ∀ k, v = some k → p k) : Gp p w w' := ⟨h.os, h.tape, h.output, h.size, fun k hk hp => h.block k hk (fun e => hp (hv k e.symm))⟩
theorem Gp.trans (h : Gp p w w') (k : Gp p w' w'') : Gp p w w'' :=
  ⟨k.os.trans h.os, k.tape.trans h.tape, k.output.trans h.output, Nat.le_trans h.size k.size, fun i hi hp => (k.block i (Nat.lt_of_lt_of_le hi h.size) hp).trans (h.block i hi hp)⟩
theorem Gp.mono (h : Gp p w w') (hp : ∀ k, p k → q k) : Gp q w w' := ⟨h.os, h.tape, h.output, h.size, fun k hk hq => h.block k hk (fun h => hq (hp k h))⟩
theorem Gp.below {B : Nat} {a : World} (h : Below B a w) (g : Gp p w w') (hB : B ≤ w.heap.size) (hp : ∀ k, p k → B ≤ k) : Below B a w' :=
  h.trans ⟨g.os, g.tape, g.output, g.size, fun k hk => g.block k (Nat.lt_of_lt_of_le hk hB) (fun h => by have := hp k h; omega)⟩
theorem Gp.box {g : Nat} {t : TypeId} {cs : Array Value} (h : Gp p w w') (hb : Box w g t cs) (hp : ¬ p g) : Box w' g t cs := (h.block g hb.lt hp).trans hb
theorem Gp.row {base : Nat} {e : TypeId} {size n c : Nat} {A : Option Addr} {xs : List Value} (g : Gp p w w') (h : Row w base e size A n c xs) (hp : ∀ k, blk A c = some k → ¬ p k) : Row w' base e size A n c xs :=
  h.keep fun k hk => g.block k (h.lt k hk).2 (hp k hk)
end
end Go.Proofs.YtmglgjchemecjaaGreat.Kit
/- Contracts of the laws' helpers on []byte: the copy, the comparison, the marks. -/
namespace Go.Proofs.YtmglgjchemecjaaGreat.CBytes
set_option maxRecDepth 200000
open Go.ChangeShapes Go.WideShapes Go.ChangeAt Go.RowKit Kit
theorem info8 : (Tryz.prog.info? 5).map (fun i => (i.zero, i.size, i.bytes)) = some (some (.int .u8 0), 1, 1) := by kernel_rfl
theorem toByteS_any (A : Option Addr) (zs : List Int) (c : Nat) (w : World) (hr : Rd w w.heap.size A (ints .u8 zs)) (hm : zs.length ≤ 1048576) :
    Calls Tryz.prog 141 #[.slice A zs.length c] w fun e w' => ∃ A' c', e = .returned (.slice A' zs.length c') ∧ w'.ownsRow w.heap.size 5 1 (.slice A' zs.length c') zs.length (ints .u8 zs) ∧ Below w.heap.size w w' := by
  obtain ⟨i0, hi, hz0, hz1, hz2⟩ := info_parts info8
  go_enter Tryz.func141, Tryz.ntmps141
  go_wp2_with (at_make; refine wpList_make_full _ rfl _ _ _ rfl w.heap.size 5 i0 (.int .u8 0) 1 Tryz.underlying34 hi hz0 hz1 .i64 .i64 _ _ zs.length rfl rfl rfl rfl ?c1 ?c2 ?c3 ?_)
  case c1 => rw [hz2]; omega
  case c2 => unfold maxLen; omega
  case c3 => exact Nat.le_refl _
  intro w1 hown hg
  rw [zero_cells', show List.replicate zs.length 0 = upTo zs 0 from by simp [upTo]] at hown
  have hb1 : Below w.heap.size w w1 := (Below.refl _ _).grown hg (Nat.le_refl _) (by intro k h; cases h)
  clear hg
  go_wp2
  go_loopw [4] (fun i wr => ∃ k : Nat, k ≤ zs.length ∧ i = .int .i64 k ∧ wr.ownsRow w.heap.size 5 1 (.slice (some ⟨w.heap.size, 0, none⟩) zs.length zs.length) zs.length (ints .u8 (upTo zs k)) ∧ Below w.heap.size w wr) (fun i _ => zs.length - (intOf i).toNat)
  case atStart => exact ⟨0, Nat.zero_le _, rfl, hown, hb1⟩
  case round =>
    obtain ⟨k, hk, rfl, ho, hb⟩ := hrel
    clear hown hb1
    by_cases hlt : k < zs.length
    · obtain ⟨b, off, rfl, hbg, hc⟩ := (hr.below hb).int hlt
      have hs := ho.stored k (.int .u8 zs[k])
      have hcell := ho.cellAt k (by omega)
      have hfz := ho.frozenAt k
      have hold : (ints IntKind.u8 (upTo zs k))[k]? = some (Value.int .u8 ((upTo zs k)[k]'(by rw [upTo_len _ _ hk]; exact hlt))) := by
        rw [List.getElem?_eq_getElem (by simp [upTo_len _ _ hk, hlt])]; simp
      rw [hold] at hcell
      generalize ((upTo zs k)[k]'(by rw [upTo_len _ _ hk]; exact hlt)) = old at hcell
      rw [setInts, upTo_set zs k hlt] at hs
      obtain ⟨ho', hg'⟩ := hs
      have hb' := hb.setCell (p := ⟨w.heap.size, k, none⟩) (Nat.le_refl _) (.int .u8 zs[k])
      have HH := hide (And.intro ho' hb')
      clear hold ho' hg' hb' ho hb hr
      generalize zs[k] = z at *
      go_wp2
      go_roundw
      case rel => exact ⟨k + 1, by omega, by go_num, HH.out.1, HH.out.2⟩
      case measure => simp [intOf]; omega
    · have e : k = zs.length := by omega
      subst e
      rw [upTo_all] at ho
      clear hr
      go_wp2
      go_ret
      exact ⟨_, _, rfl, ho, hb⟩
theorem eqByteS_any (A A' : Option Addr) (xs ys : List Int) (c c' B : Nat) (w : World) (hr : Rd w B A (ints .u8 xs)) (hr' : Rd w B A' (ints .u8 ys)) (hm : xs.length ≤ maxLen) (hm' : ys.length ≤ maxLen) :
    Calls Tryz.prog 146 #[.slice A xs.length c, .slice A' ys.length c'] w fun e w' => e = .returned (.bool (xs == ys)) ∧ ∃ n, w' = w.drewN n := by
  unfold maxLen at hm hm'
  by_cases hl : xs.length = ys.length
  · have h0 : (((xs.length : Nat) : Int) != (ys.length : Nat)) = false := by simp; omega
    go_enter Tryz.func146, Tryz.ntmps146
    go_wp2
    clear h0
    have HL := hide hl
    go_loopw [5] (fun i wr => ∃ k : Nat, k ≤ xs.length ∧ i = .int .i64 k ∧ xs.take k = ys.take k ∧ ∃ n, wr = w.drewN n) (fun i _ => xs.length - (intOf i).toNat)
    case atStart => exact ⟨0, Nat.zero_le _, rfl, rfl, 0, rfl⟩
    case round =>
      obtain ⟨k, hk, rfl, he, n, rfl⟩ := hrel
      have HE := hide he
      clear he hl
      by_cases hlt : k < xs.length
      · obtain ⟨b, off, rfl, _, hc⟩ := hr.int hlt
        obtain ⟨b', off', rfl, _, hc'⟩ := hr'.int (i := k) (by have := HL.out; omega)
        clear hr hr'
        have hlt' : k < ys.length := by have := HL.out; omega
        by_cases hxy : xs[k] = ys[k]
        · have HE' := hide (show xs.take (k + 1) = ys.take (k + 1) by rw [take_succ hlt, take_succ hlt', HE.out, hxy])
          have hn : (xs[k] != ys[k]) = false := by simpa using hxy
          clear hxy
          go_wp2_with fail
          go_quiet (fail)
          go_wp2
          go_roundw
          case rel => exact ⟨k + 1, by omega, by go_num, HE'.out, _, rfl⟩
          case measure => simp [intOf]; omega
        · have hn : (xs[k] != ys[k]) = true := by simpa using hxy
          have HF := hide (show (xs == ys) = false by
            apply beq_eq_false_iff_ne.2
            intro e
            subst e
            exact hxy rfl)
          clear hxy
          go_wp2_with fail
          go_quiet (fail)
          go_wp2
          go_ret
          exact ⟨ret_bool HF.out.symm, _, World.drewN_drewN ..⟩
      · have HF := hide (show (xs == ys) = true by
          have e := HE.out
          have := HL.out
          rw [List.take_of_length_le (by omega), List.take_of_length_le (by omega)] at e
          subst e
          simp)
        clear hr hr'
        go_wp2
        go_ret
        exact ⟨ret_bool HF.out.symm, _, rfl⟩
  · have h1 : (((xs.length : Nat) : Int) != (ys.length : Nat)) = true := by simp; omega
    have h2 : (xs == ys) = false := by simp; intro e; exact hl (by rw [e])
    have H2 := hide h2
    clear h2 hl
    go_enter Tryz.func146, Tryz.ntmps146
    go_wp2
    go_ret
    exact ⟨ret_bool H2.out.symm, 0, rfl⟩

def marks (k0 : Int) (n : Nat) : List Int := (List.range n).map fun (i : Nat) => (k0 + (i : Int)) % 256
theorem marks_len (k0 : Int) (n : Nat) : (marks k0 n).length = n := by simp [marks]
theorem marks_at (k0 : Int) (n i : Nat) (h : i < n) : (marks k0 n)[i]'(by rw [marks_len]; exact h) = (k0 + i) % 256 := by simp [marks]
theorem marks_set (k0 : Int) (n i : Nat) (xs : List Int) (h : i < xs.length) (hn : xs.length = n) : (marks k0 i ++ xs.drop i).set i ((k0 + i) % 256) = marks k0 (i + 1) ++ xs.drop (i + 1) := by
  rw [List.set_append_right _ _ (by rw [marks_len]; exact Nat.le_refl _), marks_len, Nat.sub_self, List.drop_eq_getElem_cons h, List.set_cons_zero]
  simp [marks, List.range_succ]
theorem mark_any (base : Nat) (A : Option Addr) (c : Nat) (xs : List Int) (k0 : Int) (w : World) (h0 : 0 ≤ k0) (hk0 : k0 ≤ 4294967296) (hm : xs.length ≤ 4294967296)
    (hown : w.ownsRow base 5 1 (.slice A xs.length c) xs.length (ints .u8 xs)) :
    Calls Tryz.prog 133 #[.slice A xs.length c, .int .i64 k0] w fun e w' => e = .returned (.int .i64 (k0 + xs.length)) ∧ w'.ownsRow base 5 1 (.slice A xs.length c) xs.length (ints .u8 (marks k0 xs.length)) ∧ w.grownBy w' (Value.slice A xs.length c).ownBlock := by
  go_enter Tryz.func133, Tryz.ntmps133
  go_wp2
  have hg0 := World.grownBy.refl w (Value.slice A xs.length c).ownBlock
  go_loopw [1, 5] (fun k i wr => ∃ j : Nat, j ≤ xs.length ∧ i = .int .i64 j ∧ k = .int .i64 (k0 + j) ∧ wr.ownsRow base 5 1 (.slice A xs.length c) xs.length (ints .u8 (marks k0 j ++ xs.drop j)) ∧ w.grownBy wr (Value.slice A xs.length c).ownBlock) (fun _ i _ => xs.length - (intOf i).toNat)
  case atStart => exact ⟨0, Nat.zero_le _, rfl, by simp, by simpa [marks] using hown, hg0⟩
  case round =>
    obtain ⟨j, hj, rfl, rfl, ho, hg⟩ := hrel
    clear hown hg0
    by_cases hlt : j < xs.length
    · have hform : ∃ g, A = some ⟨g, 0, none⟩ := by
        rcases ho.2 with ⟨hv, h0⟩ | ⟨g, cap, cur, hv, _⟩
        · omega
        · injection hv with hA
          exact ⟨g, hA⟩
      obtain ⟨g, rfl⟩ := hform
      have hs := ho.stored j (.int .u8 ((k0 + j) % 256))
      have hcell := ho.cellAt j (by omega)
      have hfz := ho.frozenAt j
      have hlen : (marks k0 j ++ xs.drop j).length = xs.length := by rw [List.length_append, marks_len, List.length_drop]; omega
      have hold : (ints IntKind.u8 (marks k0 j ++ xs.drop j))[j]? = some (Value.int .u8 ((marks k0 j ++ xs.drop j)[j]'(by omega))) := by
        rw [List.getElem?_map, List.getElem?_eq_getElem (by omega)]; rfl
      rw [hold] at hcell
      generalize ((marks k0 j ++ xs.drop j)[j]'(by omega)) = old at hcell
      rw [setInts, marks_set k0 xs.length j xs hlt rfl] at hs
      obtain ⟨ho', hg'⟩ := hs
      have HH := hide (And.intro ho' (show w.grownBy _ (some g) from
        ⟨hg'.os.trans hg.os, hg'.tape.trans hg.tape, hg'.output.trans hg.output, Nat.le_trans hg.size hg'.size, fun k hk hne => (hg'.block k (Nat.lt_of_lt_of_le hk hg.size) hne).trans (hg.block k hk (by simpa [Value.ownBlock] using hne))⟩))
      clear hold ho' hg' hg ho hlen
      have e1 : k0 + (j : Int) + 1 = k0 + ((j + 1 : Nat) : Int) := by omega
      have E1 := hide e1
      clear e1
      go_wp2
      refine ⟨⟨j + 1, by omega, by go_num, by rw [E1.out], HH.out.1, HH.out.2⟩, by simp [intOf]; omega⟩
    · have e : j = xs.length := by omega
      subst e
      rw [List.drop_length, List.append_nil] at ho
      go_wp2
      go_ret
      exact ⟨rfl, ho, hg⟩
end Go.Proofs.YtmglgjchemecjaaGreat.CBytes
/- Objects in memory: what is read, what is the call's own. -/
namespace Go.Proofs.YtmglgjchemecjaaGreat.BObj
set_option maxRecDepth 200000
open Go.ChangeShapes Go.WideShapes Go.ChangeAt Go.RowKit Kit CFixups CSymbols PObj
theorem info : (Tryz.prog.info? 77).map (fun i => (i.zero, i.size, i.bytes)) = some (some (.agg #[.string ByteArray.empty, .int .i64 0, .int .i64 0, .slice none 0 0, .int .i64 0, .slice none 0 0]), 6, 88) := by kernel_rfl
/-- A section's rows. -/
def RwS (w : World) (base : Nat) (p : SV) : Prop := Row w base 5 1 p.A p.zs.length p.c (ints .u8 p.zs) ∧ Row w base 80 4 p.F p.fs.length p.fc (cellsOf fixupC p.fs)
def RdS (w : World) (B : Nat) (p : SV) : Prop := Rd w B p.A (ints .u8 p.zs) ∧ Rd w B p.F (cellsOf fixupC p.fs)
def ApS (p q : SV) : Prop := Apart p.A p.c q.A q.c ∧ Apart p.F p.fc q.F q.fc
def RwSs (w : World) (base : Nat) (ps : List SV) : Prop := ∀ p ∈ ps, RwS w base p
def RdSs (w : World) (B : Nat) (A : Option Addr) (ps : List SV) : Prop := Rd w B A (cellsOf secC ps) ∧ ∀ p ∈ ps, RdS w B p
def PwSs (ps : List SV) : Prop := ps.Pairwise ApS
def OwnSs (w : World) (base : Nat) (A : Option Addr) (c : Nat) (ps : List SV) : Prop := Row w base 77 6 A ps.length c (cellsOf secC ps) ∧ RwSs w base ps ∧ PwSs ps
def RdO (w : World) (B : Nat) (o : OV) : Prop := RdSs w B o.A o.ps ∧ Rd w B o.Y (cellsOf symbolC o.ys)
def OwnO (w : World) (base : Nat) (o : OV) : Prop := OwnSs w base o.A o.c o.ps ∧ Row w base 69 4 o.Y o.ys.length o.yc (cellsOf symbolC o.ys)
/-- The blocks of a section, of sections, of an object. -/
def sblk (p : SV) (k : Nat) : Prop := blk p.A p.c = some k ∨ blk p.F p.fc = some k
def ssblk (A : Option Addr) (c : Nat) (ps : List SV) (k : Nat) : Prop := blk A c = some k ∨ ∃ p ∈ ps, sblk p k
def oblk (o : OV) (k : Nat) : Prop := ssblk o.A o.c o.ps k ∨ blk o.Y o.yc = some k
section
variable {w w' : World} {B B' base : Nat} {A : Option Addr} {c : Nat} {ps : List SV} {p : SV} {o : OV}
theorem RdS.below (h : RdS w B p) (hb : Below B w w') : RdS w' B p := ⟨h.1.below hb, h.2.below hb⟩
theorem RdS.more (h : RdS w B p) (hB : B ≤ B') : RdS w B' p := ⟨h.1.more hB, h.2.more hB⟩
theorem RdSs.below (h : RdSs w B A ps) (hb : Below B w w') : RdSs w' B A ps := ⟨h.1.below hb, fun p hp => (h.2 p hp).below hb⟩
theorem RdSs.more (h : RdSs w B A ps) (hB : B ≤ B') : RdSs w B' A ps := ⟨h.1.more hB, fun p hp => (h.2 p hp).more hB⟩
theorem RdO.below (h : RdO w B o) (hb : Below B w w') : RdO w' B o := ⟨h.1.below hb, h.2.below hb⟩
theorem RdO.more (h : RdO w B o) (hB : B ≤ B') : RdO w B' o := ⟨h.1.more hB, h.2.more hB⟩
theorem RdO.call (h : RdO w w.heap.size o) (hb : Below w.heap.size w w') : RdO w' w'.heap.size o := (h.below hb).more hb.size
theorem RwS.rd (h : RwS w base p) : RdS w w.heap.size p := ⟨h.1.rd, h.2.rd⟩
theorem OwnSs.rd (h : OwnSs w base A c ps) : RdSs w w.heap.size A ps := ⟨h.1.rd, fun p hp => (h.2.1 p hp).rd⟩
theorem OwnO.rd (h : OwnO w base o) : RdO w w.heap.size o := ⟨h.1.rd, h.2.rd⟩
theorem RwS.lt (h : RwS w base p) : ∀ k, sblk p k → base ≤ k ∧ k < w.heap.size := by
  rintro k (hk | hk)
  · exact h.1.lt k hk
  · exact h.2.lt k hk
theorem OwnSs.lt (h : OwnSs w base A c ps) : ∀ k, ssblk A c ps k → base ≤ k ∧ k < w.heap.size := by
  rintro k (hk | ⟨p, hp, hk⟩)
  · exact h.1.lt k hk
  · exact (h.2.1 p hp).lt k hk
theorem OwnO.lt (h : OwnO w base o) : ∀ k, oblk o k → base ≤ k ∧ k < w.heap.size := by
  rintro k (hk | hk)
  · exact h.1.lt k hk
  · exact h.2.lt k hk
theorem RwS.keep (h : RwS w base p) (hk : ∀ k, sblk p k → w'.heap[k]? = w.heap[k]?) : RwS w' base p := ⟨h.1.keep fun k hb => hk k (.inl hb), h.2.keep fun k hb => hk k (.inr hb)⟩
theorem RwS.call (h : RwS w base p) (hb : Below w.heap.size w w') : RwS w' base p := h.keep fun k hk => hb.block k (h.lt k hk).2
theorem RwS.down {b : Nat} (h : RwS w base p) (hb : b ≤ base) : RwS w b p := ⟨h.1.down hb, h.2.down hb⟩
theorem RwS.set (h : RwS w base p) {a : Addr} (ha : ∀ k, sblk p k → k ≠ a.block) (u : Value) : RwS (w.setCell a u) base p := h.keep fun k hk => Below.heap_setCell w a u k (ha k hk)
theorem RwS.gp {q : Nat → Prop} (g : Gp q w w') (h : RwS w base p) (hp : ∀ k, sblk p k → ¬ q k) : RwS w' base p := h.keep fun k hk => g.block k (h.lt k hk).2 (hp k hk)
theorem RwSs.call (h : RwSs w base ps) (hb : Below w.heap.size w w') : RwSs w' base ps := fun p hp => (h p hp).call hb
theorem RwSs.down {b : Nat} (h : RwSs w base ps) (hb : b ≤ base) : RwSs w b ps := fun p hp => (h p hp).down hb
theorem OwnSs.keep (h : OwnSs w base A c ps) (hk : ∀ k, ssblk A c ps k → w'.heap[k]? = w.heap[k]?) : OwnSs w' base A c ps :=
  ⟨h.1.keep fun k hb => hk k (.inl hb), fun p hp => (h.2.1 p hp).keep fun k hb => hk k (.inr ⟨p, hp, hb⟩), h.2.2⟩
theorem OwnSs.call (h : OwnSs w base A c ps) (hb : Below w.heap.size w w') : OwnSs w' base A c ps := h.keep fun k hk => hb.block k (h.lt k hk).2
theorem OwnSs.down {b : Nat} (h : OwnSs w base A c ps) (hb : b ≤ base) : OwnSs w b A c ps := ⟨h.1.down hb, h.2.1.down hb, h.2.2⟩
theorem OwnO.keep (h : OwnO w base o) (hk : ∀ k, oblk o k → w'.heap[k]? = w.heap[k]?) : OwnO w' base o := ⟨h.1.keep fun k hb => hk k (.inl hb), h.2.keep fun k hb => hk k (.inr hb)⟩
theorem OwnO.call (h : OwnO w base o) (hb : Below w.heap.size w w') : OwnO w' base o := h.keep fun k hk => hb.block k (h.lt k hk).2
theorem OwnO.down {b : Nat} (h : OwnO w base o) (hb : b ≤ base) : OwnO w b o := ⟨h.1.down hb, h.2.down hb⟩
theorem OwnO.gp {q : Nat → Prop} (g : Gp q w w') (h : OwnO w base o) (hp : ∀ k, oblk o k → ¬ q k) : OwnO w' base o := h.keep fun k hk => g.block k (h.lt k hk).2 (hp k hk)
theorem RwSs.snoc {q : SV} (h : RwSs w base ps) (hq : RwS w base q) : RwSs w base (ps ++ [q]) := by
  intro p hp
  rcases List.mem_append.1 hp with hp | hp
  · exact h p hp
  · obtain rfl := List.mem_singleton.1 hp
    exact hq
theorem PwSs.snoc {q : SV} {N : Nat} (h : PwSs ps) (h1 : ∀ p ∈ ps, ∀ k, sblk p k → k < N) (h2 : ∀ k, sblk q k → N ≤ k) : PwSs (ps ++ [q]) := by
  refine List.pairwise_append.2 ⟨h, List.pairwise_singleton _ _, fun a ha b hb => ?_⟩
  obtain rfl := List.mem_singleton.1 hb
  refine ⟨fun k hk hk' => ?_, fun k hk hk' => ?_⟩
  · have e1 := h1 a ha k (.inl hk)
    have e2 := h2 k (.inl hk')
    omega
  · have e1 := h1 a ha k (.inr hk)
    have e2 := h2 k (.inr hk')
    omega
/-- A section's rows lie apart from a block of another type. -/
theorem RwS.box (h : RwS w base p) {X : Nat} {t : TypeId} {cs : Array Value} (hb : Box w X t cs) (h1 : 5 ≠ t) (h2 : 80 ≠ t) : ∀ k, sblk p k → k ≠ X := by
  rintro k (hk | hk)
  · exact h.1.box hb h1 k hk
  · exact h.2.box hb h2 k hk
end
theorem box_of_own {w : World} {base g n c size : Nat} {e : TypeId} {xs : List Value} (h : w.ownsRow base e size (.slice (some ⟨g, 0, none⟩) n c) n xs) : ∃ cs, Box w g e cs := by
  rcases h.2 with ⟨hv, _⟩ | ⟨g', cap, cur, hv, _, hg, _⟩
  · cases hv
  · injection hv with hA
    simp only [Option.some.injEq, Addr.mk.injEq, and_true] at hA
    subst hA
    exact ⟨cur, hg⟩
theorem cells_snoc (qs : List SV) (q : SV) : cellsOf secC (qs ++ [q]) = cellsOf secC qs ++ secC q := by simp [cellsOf]
/-- Six cells put one by one. -/
def put6 (w : World) (Y : Nat) (i : Nat) (v0 v1 v2 v3 v4 v5 : Value) : World := (((((w.setCell ⟨Y, i, none⟩ v0).setCell ⟨Y, i + 1, none⟩ v1).setCell ⟨Y, i + 2, none⟩ v2).setCell ⟨Y, i + 3, none⟩ v3).setCell ⟨Y, i + 4, none⟩ v4).setCell ⟨Y, i + 5, none⟩ v5
section
variable {w a : World} {B Y i : Nat} {v0 v1 v2 v3 v4 v5 : Value}
theorem put6_below (h : Below B a w) (hY : B ≤ Y) : Below B a (put6 w Y i v0 v1 v2 v3 v4 v5) :=
  (((((h.setCell (p := ⟨Y, i, none⟩) hY v0).setCell (p := ⟨Y, i + 1, none⟩) hY v1).setCell (p := ⟨Y, i + 2, none⟩) hY v2).setCell (p := ⟨Y, i + 3, none⟩) hY v3).setCell (p := ⟨Y, i + 4, none⟩) hY v4).setCell (p := ⟨Y, i + 5, none⟩) hY v5
theorem put6_rwS {base : Nat} {p : SV} (h : RwS w base p) (hk : ∀ k, sblk p k → k ≠ Y) : RwS (put6 w Y i v0 v1 v2 v3 v4 v5) base p :=
  (((((h.set (a := ⟨Y, i, none⟩) hk v0).set (a := ⟨Y, i + 1, none⟩) hk v1).set (a := ⟨Y, i + 2, none⟩) hk v2).set (a := ⟨Y, i + 3, none⟩) hk v3).set (a := ⟨Y, i + 4, none⟩) hk v4).set (a := ⟨Y, i + 5, none⟩) hk v5
theorem put6_box {t : TypeId} {u0 u1 u2 u3 u4 u5 : Value} (h : Box w Y t #[u0, u1, u2, u3, u4, u5]) : Box (put6 w Y 0 v0 v1 v2 v3 v4 v5) Y t #[v0, v1, v2, v3, v4, v5] :=
  (((((h.set 0 v0).set 1 v1).set 2 v2).set 3 v3).set 4 v4).set 5 v5
end
/-- The same, written out. -/
theorem six_box {w : World} {Y : Nat} {t : TypeId} {u0 u1 u2 u3 u4 u5 : Value} (h : Box w Y t #[u0, u1, u2, u3, u4, u5]) (v0 v1 v2 v3 v4 v5 : Value) :
    Box ((((((w.setCell ⟨Y, 0, none⟩ v0).setCell ⟨Y, 1, none⟩ v1).setCell ⟨Y, 2, none⟩ v2).setCell ⟨Y, 3, none⟩ v3).setCell ⟨Y, 4, none⟩ v4).setCell ⟨Y, 5, none⟩ v5) Y t #[v0, v1, v2, v3, v4, v5] :=
  (((((h.set 0 v0).set 1 v1).set 2 v2).set 3 v3).set 4 v4).set 5 v5
/-- What a call hands back. -/
def RetS (p : SD) (w : World) (e : Ending) (w' : World) : Prop := ∃ q : SV, e = .returned (.agg (secC q).toArray) ∧ q.d = p ∧ RwS w' w.heap.size q ∧ Below w.heap.size w w'
def RetSs (ds : List SD) (w : World) (e : Ending) (w' : World) : Prop := ∃ A c qs, e = .returned (.slice A qs.length c) ∧ qs.map SV.d = ds ∧ OwnSs w' w.heap.size A c qs ∧ Below w.heap.size w w'
def RetO (d : OD) (w : World) (e : Ending) (w' : World) : Prop := ∃ o : OV, e = .returned o.v ∧ o.d = d ∧ OwnO w' w.heap.size o ∧ Below w.heap.size w w'
end Go.Proofs.YtmglgjchemecjaaGreat.BObj
/- The contract of the library's bytes.Equal, at every two slices of bytes. -/
namespace Go.Proofs.YtmglgjchemecjaaGreat.CEqual
set_option maxRecDepth 200000
open Go.ChangeShapes Go.WideShapes Go.ChangeAt Go.RowKit Kit
theorem conv_run {w : World} {B : Nat} {A : Option Addr} {xs : List Int} (h : Rd w B A (ints .u8 xs)) (c : Nat) : (convert 34 9 (.slice A xs.length c)).run Tryz.prog w = .ok (.string (strOfNums xs)) w := by
  cases xs with
  | nil =>
    cases A with
    | none => exact run_convert_bytes_nil w 34 5 Tryz.underlying34 Tryz.underlying5 0 c 9 Tryz.underlying9
    | some a =>
      have hl : (loadCells a 0).run Tryz.prog w = .ok (([] : List Int).map (Value.int .u8)).toArray w := by
        have := run_loadCells_list (P := Tryz.prog) w a [] (fun j v hj => by simp at hj)
        simpa using this
      have hl0 : ([] : List Int).length = 0 := rfl
      rw [hl0, run_convert_bytes_string w 34 9 5 _ 0 c Tryz.underlying34 Tryz.underlying5 Tryz.underlying9, run_bytesToString w _ 0 c [] hl]
      rfl
  | cons x r =>
    obtain ⟨b, off, rfl, _⟩ := h.int (i := 0) (by simp)
    refine run_convert_bytes_arg w 34 5 Tryz.underlying34 Tryz.underlying5 b off _ c (x :: r) rfl (fun i hi => ?_) 9 Tryz.underlying9
    obtain ⟨b', off', e, _, hc⟩ := h.int hi
    simp only [Option.some.injEq, Addr.mk.injEq, and_true] at e
    obtain ⟨rfl, rfl⟩ := e
    rw [hc, List.getD_eq_getElem?_getD, List.getElem?_eq_getElem hi]
    rfl
theorem bytes_inj : ∀ {xs ys : List Int}, InR 0 255 xs → InR 0 255 ys → Lib.bytesOf xs = Lib.bytesOf ys → xs = ys
  | [], [], _, _, _ => rfl
  | [], y :: s, _, _, h => by simp [Lib.bytesOf] at h
  | x :: r, [], _, _, h => by simp [Lib.bytesOf] at h
  | x :: r, y :: s, hx, hy, h => by
    simp only [Lib.bytesOf, List.map_cons, List.cons.injEq] at h
    have h1 := hx x (by simp)
    have h2 := hy y (by simp)
    have h3 := congrArg UInt8.toNat h.1
    simp only [UInt8.toNat_ofNat'] at h3
    have e : x = y := by omega
    have e2 := bytes_inj (fun z hz => hx z (by simp [hz])) (fun z hz => hy z (by simp [hz])) h.2
    rw [e, e2]
theorem str_eq {xs ys : List Int} (hx : InR 0 255 xs) (hy : InR 0 255 ys) : ((strOfNums xs).toList == (strOfNums ys).toList) = decide (xs = ys) := by
  rw [Lib.strOfNums_toList, Lib.strOfNums_toList]
  by_cases h : xs = ys
  · subst h; simp
  · simp only [h, decide_false]
    exact beq_eq_false_iff_ne.2 fun e => h (bytes_inj hx hy e)
theorem equal_any (A A' : Option Addr) (xs ys : List Int) (c c' B B' : Nat) (w : World) (hr : Rd w B A (ints .u8 xs)) (hr' : Rd w B' A' (ints .u8 ys)) (hx : InR 0 255 xs) (hy : InR 0 255 ys) :
    Calls Tryz.prog 35 #[.slice A xs.length c, .slice A' ys.length c'] w (Pure (.bool (decide (xs = ys))) w) := by
  have e1 := conv_run hr c
  have e2 := conv_run hr' c'
  have HE := hide (str_eq hx hy)
  generalize decide (xs = ys) = b at *
  clear hr hr'
  generalize strOfNums xs = s at *
  generalize strOfNums ys = s' at *
  go_enter Tryz.func35, Tryz.ntmps35
  go_wp2
  go_ret
  exact ⟨ret_bool HE.out, rfl⟩
theorem equal_n (A A' : Option Addr) (xs ys : List Int) (n m c c' B B' : Nat) (w : World) (hn : n = xs.length) (hm : m = ys.length) (hr : Rd w B A (ints .u8 xs)) (hr' : Rd w B' A' (ints .u8 ys)) (hx : InR 0 255 xs) (hy : InR 0 255 ys) :
    Calls Tryz.prog 35 #[.slice A n c, .slice A' m c'] w (Pure (.bool (decide (xs = ys))) w) := by
  subst hn hm
  exact equal_any A A' xs ys c c' B B' w hr hr' hx hy
end Go.Proofs.YtmglgjchemecjaaGreat.CEqual
/- The reference's decimal numbers: they are the library's. -/
namespace Go.Proofs.YtmglgjchemecjaaGreat.CNumTxt
set_option maxRecDepth 200000
open Go.ChangeShapes Go.WideShapes Go.ChangeAt Go.RowKit Kit CEqual
def dch (v : Nat) : UInt8 := UInt8.ofNat (48 + v % 10)
/-- What stands before a number's last digit. -/
def dpre (v : Nat) : List UInt8 := if v < 10 then [] else Lib.decDigits (v / 10)
theorem dec_pre (v : Nat) : Lib.decDigits v = dpre v ++ [dch v] := by
  rw [Lib.decDigits]
  unfold dpre dch
  split
  · rename_i h
    rw [show v % 10 = v by omega]
    rfl
  · rfl
theorem dpre_next {v : Nat} (h : ¬ v < 10) : dpre v = dpre (v / 10) ++ [dch (v / 10)] := by
  rw [← dec_pre]
  unfold dpre
  rw [if_neg h]
theorem str_add (a b : List UInt8) : ((⟨a.toArray⟩ : ByteArray) ++ (⟨b.toArray⟩ : ByteArray)) = ⟨(a ++ b).toArray⟩ := by
  apply ByteArray.ext
  simp
theorem conv_digit (W : World) (v : Nat) : (convert 34 9 (.slice (some ⟨W.heap.size, 0, none⟩) 1 1)).run Tryz.prog (W.alloc (.cells #[.int .u8 (48 + (v : Int) % 10)] 5)) = .ok (.string ⟨[dch v].toArray⟩) (W.alloc (.cells #[.int .u8 (48 + (v : Int) % 10)] 5)) := by
  have h : Rd (W.alloc (.cells #[.int .u8 (48 + (v : Int) % 10)] 5)) (W.heap.size + 1) (some ⟨W.heap.size, 0, none⟩) (ints .u8 [48 + (v : Int) % 10]) := by
    intro i u hi
    match i, hi with
    | 0, hi =>
      simp at hi
      subst hi
      exact ⟨_, _, rfl, Nat.lt_succ_self _, (Box.new W 5 #[.int .u8 (48 + (v : Int) % 10)]).cell 0⟩
    | i + 1, hi => simp at hi
  have := conv_run h 1
  rw [show strOfNums [48 + (v : Int) % 10] = ⟨[dch v].toArray⟩ from by
    unfold strOfNums dch
    simp only [List.map_cons, List.map_nil]
    rw [show (48 + (v : Int) % 10).toNat = 48 + v % 10 by omega]] at this
  exact this
end Go.Proofs.YtmglgjchemecjaaGreat.CNumTxt
/- The texts that the laws' marks write. -/
namespace Go.Proofs.YtmglgjchemecjaaGreat.CMarkText
set_option maxRecDepth 200000
open Go.ChangeShapes Go.WideShapes Go.ChangeAt Go.RowKit Kit CNumTxt
def mpre (v : Nat) : List UInt8 := if v = 0 then [] else Lib.decDigits v
theorem mpre_next {v : Nat} (h : v ≠ 0) : mpre v = mpre (v / 10) ++ [dch v] := by
  unfold mpre
  rw [if_neg h, dec_pre]
  congr 1
  unfold dpre
  by_cases h9 : v < 10
  · rw [if_pos h9, if_pos (by omega)]
  · rw [if_neg h9, if_neg (by omega)]
/-- The letter m and the number's digits. -/
def mtx (k : Int) : ByteArray := if k ≤ 0 then ⟨#[109, 48]⟩ else ⟨(109 :: Lib.decDigits k.toNat).toArray⟩
theorem markText_any (k : Int) (w : World) (h1 : k ≤ 9000000000000) :
    Calls Tryz.prog 79 #[.int .i64 k] w (Ret (.string (mtx k)) w) := by
  by_cases h0 : k ≤ 0
  · have HV := hide (show mtx k = ⟨#[109, 48]⟩ from if_pos h0)
    go_enter Tryz.func79, Tryz.ntmps79
    go_wp2_with fail
    go_ret
    exact ⟨by rw [HV.out]; rfl, Below.refl _ _⟩
  · obtain ⟨u, rfl⟩ : ∃ u : Nat, k = u := ⟨k.toNat, by omega⟩
    have HV := hide (show mtx (u : Int) = ⟨(109 :: Lib.decDigits u).toArray⟩ from if_neg h0)
    have hm := Lib.nDigits_le20 u (by omega)
    go_enter Tryz.func79, Tryz.ntmps79
    go_wp2_with fail
    go_loopw [0, 3] (fun x s wr => ∃ (v : Nat) (l : List UInt8), x = .int .i64 v ∧ s = .string ⟨l.toArray⟩ ∧ v ≤ u ∧ mpre u = mpre v ++ l ∧ Below w.heap.size w wr) (fun x _ _ => (intOf x).toNat)
    case atStart => exact ⟨u, [], rfl, rfl, Nat.le_refl _, by simp, Below.refl _ _⟩
    case round =>
      obtain ⟨v, l, rfl, rfl, hv, hd, hb⟩ := hrel
      have hll : l.length ≤ 20 := by
        have h := congrArg List.length hd
        rw [List.length_append] at h
        have : (mpre u).length ≤ 20 := by
          unfold mpre
          split
          · simp
          · rw [Lib.decDigits_length]; omega
        omega
      have hl1 : ¬ 9223372036854775807 < l.length := by omega
      have hl2 : ¬ 9223372036854775807 < 1 + l.length := by omega
      have hl3 : ¬ 9223372036854775807 < l.length + 1 := by omega
      have HD := hide hd
      have HB := hide hb
      clear hd hb
      by_cases hz : v = 0
      · subst hz
        have HF := hide (show ((⟨#[109]⟩ : ByteArray) ++ (⟨l.toArray⟩ : ByteArray)) = mtx (u : Int) by
          rw [HV.out, show ((⟨#[109]⟩ : ByteArray) ++ (⟨l.toArray⟩ : ByteArray)) = ⟨([109] ++ l).toArray⟩ from str_add [109] l]
          have h := HD.out
          have hu : u ≠ 0 := by omega
          have h2 : mpre u = Lib.decDigits u := if_neg hu
          rw [h2] at h
          rw [h]
          rfl)
        go_wp2_with fail
        rw [HF.out]
        go_ret
        exact ⟨rfl, HB.out⟩
      · have hv0 : (0 : Int) < v := by omega
        have e1 := conv_digit wr v
        have HA := hide (str_add [dch v] l)
        have HN := hide (show (v : Int) / 10 = ((v / 10 : Nat) : Int) from by omega)
        have HP := hide (mpre_next hz)
        go_wp2_with fail
        go_roundw
        case rel =>
          refine ⟨v / 10, [dch v] ++ l, by rw [HN.out], by rw [← HA.out], by omega, ?_, HB.out.alloc HB.out.size _⟩
          rw [HD.out, HP.out, List.append_assoc]
        case measure => simp [intOf]; omega
end Go.Proofs.YtmglgjchemecjaaGreat.CMarkText
/- A region that draws its order: loads and what only computes are taken first under a condition on the world, which need not hold behind the operations that wait for all of them (a store into a cell that was loaded). -/
namespace Go.Proofs.YtmglgjchemecjaaGreat.Reg
set_option maxRecDepth 200000
open Go
section
variable {P : Program} {ops : Array Oper} {Q : Exit → Act → World → Prop} {md : Region.Mode} {S : World → Prop} {T : Nat → Bool}
/-- Whatever order is picked from here on, and S holds behind every operation that is carried out, but for those of T. -/
def wpAnyT (P : Program) (md : Region.Mode) (ops : Array Oper) (Q : Exit → Act → World → Prop) (S : World → Prop) (T : Nat → Bool) : Nat → Array Bool → Act → World → Prop
  | 0, listed, a, w => Region.ready md ops listed = [] ∧ Q .normal a w
  | fuel + 1, listed, a, w =>
    (Region.ready md ops listed = [] → Q .normal a w) ∧
    ∀ i ∈ Region.ready md ops listed, wpOp P ops Q i (fun a' w' => (T i = false → S w') ∧ wpAnyT P md ops Q S T fuel (listed.setIfInBounds i true) a' w') a w
theorem wpAny_of_T : ∀ (fuel : Nat) (listed : Array Bool) (a : Act) (w : World), wpAnyT P md ops Q S T fuel listed a w → wpAny P md ops Q fuel listed a w
  | 0, _, _, _, h => h
  | fuel + 1, _, _, _, h => ⟨h.1, fun i hi => wpOp_mono (fun a' w' h' => wpAny_of_T fuel _ a' w' h'.2) (h.2 i hi)⟩
/-- An operation that waits for number i directly. -/
def waits (md : Region.Mode) (o : Oper) (i : Nat) : Bool := o.after.any fun e => Region.binds md e && e.on == i
theorem wpAnyT_first {i : Nat} {oi : Oper} {v : Value} (hi : ops[i]? = some oi) (hsel : ∀ (j : Nat) (o : Oper) cs b, ops[j]? = some o → o.op ≠ .select cs b)
    (hQ : ∀ c a w, Q (.panic c) (a.put oi.dst v) w → Q (.panic c) a w) (hT : ∀ (j : Nat) (o : Oper), ops[j]? = some o → T j = true → j ≠ i → waits md o i = true) :
    ∀ (fuel : Nat) (listed : Array Bool) (a : Act) (w : World),
      (∀ j oj, ops[j]? = some oj → j ≠ i → listed.getD j true = false → (∀ e ∈ oj.after, Region.binds md e = true → e.on ≠ i) → oi.apart ops oj = true) →
      i ∈ Region.ready md ops listed → YieldsIf P ops S oi v a → S w →
      wpAnyT P md ops Q S T fuel (listed.setIfInBounds i true) (a.put oi.dst v) w → wpAnyT P md ops Q S T (fuel + 1) listed a w := by
  intro fuel
  induction fuel with
  | zero =>
    intro listed a w _ hr hy hS H
    refine ⟨fun h => (by rw [h] at hr; cases hr), fun j hj => ?_⟩
    by_cases hji : j = i
    · subst hji
      exact hy.wpOp hi hS ⟨fun _ => hS, H⟩
    · have := ready_mono hj hji
      rw [H.1] at this
      cases this
  | succ fuel ih =>
    intro listed a w hfree hr hy hS H
    refine ⟨fun h => (by rw [h] at hr; cases hr), fun j hj => ?_⟩
    by_cases hji : j = i
    · subst hji
      exact hy.wpOp hi hS ⟨fun _ => hS, H⟩
    · have h1 := H.2 j (ready_mono hj hji)
      obtain ⟨hjun, oj, hoj, hall⟩ := mem_ready.1 hj
      have hnot : ∀ e ∈ oj.after, Region.binds md e = true → e.on ≠ i := fun e he hb heq => by
        have h1 := hall e he hb
        have h0 := (mem_ready.1 hr).1
        rw [heq] at h1
        rcases Nat.lt_or_ge i listed.size with h' | h'
        · simp [h'] at h0 h1
          rw [h0] at h1
          cases h1
        · simp [Array.getElem?_eq_none h'] at h1
      have hTj : T j = false := by
        cases hT' : T j
        · rfl
        · have := hT j oj hoj hT' hji
          unfold waits at this
          rw [Array.any_eq_true] at this
          obtain ⟨k, hk, he⟩ := this
          simp only [Bool.and_eq_true, beq_iff_eq] at he
          exact absurd he.2 (hnot _ (Array.getElem_mem hk) he.1)
      have h2 := wpOp_putIf hoj (hfree j oj hoj hji hjun hnot) (fun cs b => hsel i oi cs b hi) (fun cs b => hsel j oj cs b hoj) hQ hy h1
      have hfree' : ∀ k ok, ops[k]? = some ok → k ≠ i → (listed.setIfInBounds j true).getD k true = false →
          (∀ e ∈ ok.after, Region.binds md e = true → e.on ≠ i) → oi.apart ops ok = true := fun k ok hk hki hun hno => by
        refine hfree k ok hk hki ?_ hno
        by_cases hjk : j = k
        · subst hjk
          exact hjun
        · rw [getD_set_ne true hjk] at hun
          exact hun
      refine wpOp_mono (fun a' w' h3 => ⟨h3.2.1, ih (listed.setIfInBounds j true) a' w' hfree' (ready_mono hr (Ne.symm hji)) h3.1 (h3.2.1 hTj) ?_⟩) h2
      rw [Array.setIfInBounds_comm _ _ hji]
      exact h3.2.2
/-- All that T names wait for number i. -/
def allWait (md : Region.Mode) (ops : Array Oper) (T : Nat → Bool) (i : Nat) : Bool := (List.range ops.size).all fun j => !T j || j == i || match ops[j]? with | some o => waits md o i | none => true
theorem allWait_spec {i : Nat} (h : allWait md ops T i = true) : ∀ (j : Nat) (o : Oper), ops[j]? = some o → T j = true → j ≠ i → waits md o i = true := by
  intro j o ho ht hne
  have hj : j < ops.size := (Array.getElem?_eq_some_iff.1 ho).1
  have := List.all_eq_true.1 h j (List.mem_range.2 hj)
  rw [ho] at this
  simpa [ht, hne] using this
/-- Take number i first. -/
theorem takeT {i : Nat} {oi : Oper} {v : Value} {fuel : Nat} {listed : Array Bool} {a : Act} {w : World} (hi : ops[i]? = some oi)
    (hs : Region.noSelect ops = true) (hf : Region.free md ops listed i = true) (hr : (Region.ready md ops listed).contains i = true) (hT : allWait md ops T i = true)
    (hQ : ∀ c a w, Q (.panic c) (a.put oi.dst v) w → Q (.panic c) a w) (hy : YieldsIf P ops S oi v a) (hS : S w)
    (h : wpAnyT P md ops Q S T fuel (listed.setIfInBounds i true) (a.put oi.dst v) w) : wpAnyT P md ops Q S T (fuel + 1) listed a w :=
  wpAnyT_first hi (Region.noSelect_spec hs) hQ (allWait_spec hT) fuel listed a w (Region.free_spec hi hf) (by simpa using hr) hy hS h
/-- One alone may come up, and it is none of T: S is shown anew behind it. -/
theorem oneT {i : Nat} {o : Oper} {fuel : Nat} {listed : Array Bool} {a : Act} {w : World} (ho : ops[i]? = some o) (hr : Region.ready md ops listed = [i])
    (h : ∀ K : Act → World → Prop, Shut (∀ a w, S w → wpAnyT P md ops Q S T fuel (listed.setIfInBounds i true) a w → K a w) → if Region.wanted o (yielded ops a.tmps) = true then Oper.wp P o a w K Q else K (a.put o.dst undef) w) :
    wpAnyT P md ops Q S T (fuel + 1) listed a w :=
  ⟨fun h0 => (by rw [hr] at h0; cases h0), fun j hj => by
    rw [hr] at hj
    simp only [List.mem_singleton] at hj
    subst hj
    exact wpOp_step ho (fun K' hK => h K' (fun a w hS hW => hK a w ⟨fun _ => hS, hW⟩))⟩
/-- Two may come up, neither of T: the one or the other is carried out. -/
theorem twoT {i j : Nat} {oi oj : Oper} {fuel : Nat} {listed : Array Bool} {a : Act} {w : World} (hoi : ops[i]? = some oi) (hoj : ops[j]? = some oj) (hr : Region.ready md ops listed = [i, j])
    (h : ∀ K : Act → World → Prop, Shut (∀ a w, S w → wpAnyT P md ops Q S T fuel (listed.setIfInBounds i true) a w → K a w) → if Region.wanted oi (yielded ops a.tmps) = true then Oper.wp P oi a w K Q else K (a.put oi.dst undef) w)
    (h' : ∀ K : Act → World → Prop, Shut (∀ a w, S w → wpAnyT P md ops Q S T fuel (listed.setIfInBounds j true) a w → K a w) → if Region.wanted oj (yielded ops a.tmps) = true then Oper.wp P oj a w K Q else K (a.put oj.dst undef) w) :
    wpAnyT P md ops Q S T (fuel + 1) listed a w :=
  ⟨fun h0 => (by rw [hr] at h0; cases h0), fun k hk => by
    rw [hr] at hk
    simp only [List.mem_cons, List.not_mem_nil, or_false] at hk
    rcases hk with rfl | rfl
    · exact wpOp_step hoi (fun K' hK => h K' (fun a w hS hW => hK a w ⟨fun _ => hS, hW⟩))
    · exact wpOp_step hoj (fun K' hK => h' K' (fun a w hS hW => hK a w ⟨fun _ => hS, hW⟩))⟩
/-- One of T comes up alone. -/
theorem lastT {i : Nat} {o : Oper} {fuel : Nat} {listed : Array Bool} {a : Act} {w : World} (ho : ops[i]? = some o) (hr : Region.ready md ops listed = [i]) (hT : T i = true)
    (h : ∀ K : Act → World → Prop, Shut (∀ a w, wpAnyT P md ops Q S T fuel (listed.setIfInBounds i true) a w → K a w) → if Region.wanted o (yielded ops a.tmps) = true then Oper.wp P o a w K Q else K (a.put o.dst undef) w) :
    wpAnyT P md ops Q S T (fuel + 1) listed a w :=
  ⟨fun h0 => (by rw [hr] at h0; cases h0), fun j hj => by
    rw [hr] at hj
    simp only [List.mem_singleton] at hj
    subst hj
    exact wpOp_step ho (fun K' hK => h K' (fun a w hW => hK a w ⟨fun hF => (by rw [hT] at hF; cases hF), hW⟩))⟩
theorem doneT {listed : Array Bool} {a : Act} {w : World} (hr : Region.ready md ops listed = []) (h : Q .normal a w) : ∀ fuel, wpAnyT P md ops Q S T fuel listed a w
  | 0 => ⟨hr, h⟩
  | _ + 1 => ⟨fun _ => h, by rw [hr]; simp⟩
/-- The beginning. -/
theorem startT {id : Nat} {a : Act} {w : World} (S : World → Prop) (T : Nat → Bool) (hm : P.follows .mixedOrders = true)
    (h : wpAnyT P .any ops Q S T ops.size (Array.replicate ops.size false) a w.drew) : (Code.region id ops true).wp P Q a w :=
  wp_region_any hm (wpAny_of_T _ _ _ _ h)
end
end Go.Proofs.YtmglgjchemecjaaGreat.Reg
/- The marks of symbols; marks of rows. -/
namespace Go.Proofs.YtmglgjchemecjaaGreat.CSymMarks
set_option maxRecDepth 200000
open Go.ChangeShapes Go.WideShapes Go.ChangeAt Go.RowKit Kit CFixups CSymbols PObj BObj CMarkText
def ymark (k : Int) : YD := (mtx k, k + 1, k + 1 + 1, k + 1 + 1 + 1)
def ymarks (k0 : Int) (m : Nat) : List YD := (List.range m).map fun (i : Nat) => ymark (k0 + 4 * (i : Int))
theorem ymarks_len (k0 : Int) (m : Nat) : (ymarks k0 m).length = m := by simp [ymarks]
theorem ymarks_at (k0 : Int) (m i : Nat) (h : i < m) : (ymarks k0 m)[i]'(by rw [ymarks_len]; exact h) = ymark (k0 + 4 * (i : Int)) := by simp [ymarks]
theorem ymarks_succ (k0 : Int) (i : Nat) : ymarks k0 (i + 1) = ymarks k0 i ++ [ymark (k0 + 4 * (i : Int))] := by simp [ymarks, List.range_succ]
theorem ymark_any (base : Nat) (A : Option Addr) (c m : Nat) (cs : List Value) (k0 : Int) (w : World) (h0 : 0 ≤ k0) (hk0 : k0 ≤ 4294967296) (hm : m ≤ 4294967296)
    (hown : w.ownsRow base 69 4 (.slice A m c) m cs) :
    Calls Tryz.prog 78 #[.slice A m c, .int .i64 k0] w fun e w' => e = .returned (.int .i64 (k0 + 4 * m)) ∧ w'.ownsRow base 69 4 (.slice A m c) m (cellsOf symbolC (ymarks k0 m)) ∧ w.grownBy w' (Value.slice A m c).ownBlock := by
  go_enter Tryz.func78, Tryz.ntmps78
  go_wp2
  have hg0 := World.grownBy.refl w (Value.slice A m c).ownBlock
  go_loopw [1, 5] (fun k i wr => ∃ j : Nat, j ≤ m ∧ i = .int .i64 j ∧ k = .int .i64 (k0 + 4 * j) ∧ (∃ xs, wr.ownsRow base 69 4 (.slice A m c) m (cellsOf symbolC (ymarks k0 j) ++ xs)) ∧ w.grownBy wr (Value.slice A m c).ownBlock) (fun _ i _ => m - (intOf i).toNat)
  case atStart => exact ⟨0, Nat.zero_le _, rfl, by simp, ⟨cs, by simpa [ymarks, cellsOf] using hown⟩, hg0⟩
  case round =>
    obtain ⟨j, hj, rfl, rfl, ⟨xs, ho⟩, hg⟩ := hrel
    clear hown hg0
    by_cases hlt : j < m
    · have hform : ∃ g, A = some ⟨g, 0, none⟩ := by
        rcases ho.2 with ⟨hv, h0⟩ | ⟨g, cap, cur, hv, _⟩
        · omega
        · injection hv with hA
          exact ⟨g, hA⟩
      obtain ⟨g, rfl⟩ := hform
      have HO := hide ho
      have HG := hide hg
      clear ho hg
      go_wp2_with fail
      refine (markText_any (k0 + 4 * j) _ (by omega)).mono ?_
      rintro e w2 ⟨rfl, b2⟩
      have ho := own_call b2 HO.out
      have hg := grown_below HG.out b2
      obtain ⟨⟨old0, hk0⟩, hfz0⟩ := own_old ho (j := j * 4) (by omega)
      obtain ⟨⟨old1, hk1⟩, hfz1⟩ := own_old ho (j := j * 4 + 1) (by omega)
      obtain ⟨⟨old2, hk2⟩, hfz2⟩ := own_old ho (j := j * 4 + 2) (by omega)
      obtain ⟨⟨old3, hk3⟩, hfz3⟩ := own_old ho (j := j * 4 + 3) (by omega)
      have hpl : (cellsOf symbolC (ymarks k0 j)).length = j * 4 := by rw [cellsOf_len symbolC_len, ymarks_len]
      have ho1 := own_put ho hpl (by omega) (.string (mtx (k0 + 4 * j)))
      have hg1 := grown_put (u := .string (mtx (k0 + 4 * j))) (j := j * 4) hg
      have ho2 := own_put ho1 (j := j * 4 + 1) (by simp only [List.length_append, hpl]; rfl) (by omega) (.int .i64 (k0 + 4 * (j : Int) + 1))
      have hg2 := grown_put (u := .int .i64 (k0 + 4 * (j : Int) + 1)) (j := j * 4 + 1) hg1
      have ho3 := own_put ho2 (j := j * 4 + 2) (by simp only [List.length_append, hpl]; rfl) (by omega) (.int .i64 (k0 + 4 * (j : Int) + 1 + 1))
      have hg3 := grown_put (u := .int .i64 (k0 + 4 * (j : Int) + 1 + 1)) (j := j * 4 + 2) hg2
      have ho4 := own_put ho3 (j := j * 4 + 3) (by simp only [List.length_append, hpl]; rfl) (by omega) (.int .i64 (k0 + 4 * (j : Int) + 1 + 1 + 1))
      have hg4 := grown_put (u := .int .i64 (k0 + 4 * (j : Int) + 1 + 1 + 1)) (j := j * 4 + 3) hg3
      have HH := hide (And.intro ho4 hg4)
      have E1 := hide (show k0 + 4 * (j : Int) + 1 + 1 + 1 + 1 = k0 + 4 * ((j + 1 : Nat) : Int) by omega)
      clear ho1 hg1 ho2 hg2 ho3 hg3 ho4 hg4 ho hg hpl HO HG b2
      go_wp2
      refine ⟨⟨j + 1, by omega, by go_num, by rw [E1.out], ⟨xs.tail.tail.tail.tail, ?_⟩, HH.out.2⟩, by simp [intOf]; omega⟩
      rw [ymarks_succ]
      simpa [cellsOf, symbolC, ymark] using HH.out.1
    · have e : j = m := by omega
      subst e
      have hxs : xs = [] := by
        have := ho.1
        rw [List.length_append, cellsOf_len symbolC_len, ymarks_len] at this
        exact List.eq_nil_of_length_eq_zero (by omega)
      subst hxs
      rw [List.append_nil] at ho
      go_wp2
      go_ret
      exact ⟨rfl, ho, hg⟩
end Go.Proofs.YtmglgjchemecjaaGreat.CSymMarks
/- Marks of rows, whether they have room or not. -/
namespace Go.Proofs.YtmglgjchemecjaaGreat.CMarkRows
set_option maxRecDepth 200000
open Go.ChangeShapes Go.WideShapes Go.ChangeAt Go.RowKit Kit CFixups CSymbols PObj BObj CMarkText CSymMarks
theorem blk_own {A : Option Addr} {n c : Nat} (hc : c ≠ 0) : blk A c = (Value.slice A n c).ownBlock := by
  unfold blk
  rw [if_neg hc]
  cases A <;> rfl
theorem markB_none (A : Option Addr) (k0 : Int) (w : World) : Calls Tryz.prog 133 #[.slice A 0 0, .int .i64 k0] w (Pure (.int .i64 k0) w) := by
  go_enter Tryz.func133, Tryz.ntmps133
  go_wp2
  go_loop [1, 5] (fun k i => i = .int .i64 0 ∧ k = .int .i64 k0) (fun _ _ => 0)
  case atStart => exact ⟨rfl, rfl⟩
  case round =>
    obtain ⟨rfl, rfl⟩ := hrel
    go_wp2
    go_ret
    exact ⟨rfl, rfl⟩
theorem markF_none (A : Option Addr) (k0 : Int) (w : World) : Calls Tryz.prog 134 #[.slice A 0 0, .int .i64 k0] w (Pure (.int .i64 k0) w) := by
  go_enter Tryz.func134, Tryz.ntmps134
  go_wp2
  go_loop [1, 5] (fun k i => i = .int .i64 0 ∧ k = .int .i64 k0) (fun _ _ => 0)
  case atStart => exact ⟨rfl, rfl⟩
  case round =>
    obtain ⟨rfl, rfl⟩ := hrel
    go_wp2
    go_ret
    exact ⟨rfl, rfl⟩
theorem markY_none (A : Option Addr) (k0 : Int) (w : World) : Calls Tryz.prog 78 #[.slice A 0 0, .int .i64 k0] w (Pure (.int .i64 k0) w) := by
  go_enter Tryz.func78, Tryz.ntmps78
  go_wp2
  go_loop [1, 5] (fun k i => i = .int .i64 0 ∧ k = .int .i64 k0) (fun _ _ => 0)
  case atStart => exact ⟨rfl, rfl⟩
  case round =>
    obtain ⟨rfl, rfl⟩ := hrel
    go_wp2
    go_ret
    exact ⟨rfl, rfl⟩
theorem markB_row (base : Nat) (A : Option Addr) (c : Nat) (xs : List Int) (k0 : Int) (w : World) (h0 : 0 ≤ k0) (hk0 : k0 ≤ 4294967296) (hm : xs.length ≤ 4294967296) (h : Row w base 5 1 A xs.length c (ints .u8 xs)) :
    Calls Tryz.prog 133 #[.slice A xs.length c, .int .i64 k0] w fun e w' => e = .returned (.int .i64 (k0 + xs.length)) ∧ Row w' base 5 1 A xs.length c (ints .u8 (CBytes.marks k0 xs.length)) ∧ w.grownBy w' (blk A c) := by
  by_cases hc : c = 0
  · subst hc
    have hx : xs = [] := List.eq_nil_of_length_eq_zero (Nat.le_zero.1 h.cap.1)
    subst hx
    refine (markB_none A k0 w).mono ?_
    rintro e w' ⟨rfl, rfl⟩
    exact ⟨by simp, .inl ⟨rfl, rfl, rfl⟩, World.grownBy.refl w _⟩
  · have hown : w.ownsRow base 5 1 (.slice A xs.length c) xs.length (ints .u8 xs) := h.elim (fun h => absurd h.2.1 hc) id
    refine (CBytes.mark_any base A c xs k0 w h0 hk0 hm hown).mono ?_
    rintro e w' ⟨rfl, o, g⟩
    exact ⟨rfl, .inr o, by rw [blk_own (n := xs.length) hc]; exact g⟩
theorem markF_row (base : Nat) (A : Option Addr) (c m : Nat) (xs : List Value) (k0 : Int) (w : World) (h0 : 0 ≤ k0) (hk0 : k0 ≤ 4294967296) (hm : m ≤ 4294967296) (h : Row w base 80 4 A m c xs) :
    Calls Tryz.prog 134 #[.slice A m c, .int .i64 k0] w fun e w' => e = .returned (.int .i64 (k0 + 4 * m)) ∧ Row w' base 80 4 A m c (cellsOf fixupC (CFixups.marks k0 m)) ∧ w.grownBy w' (blk A c) := by
  by_cases hc : c = 0
  · subst hc
    obtain rfl : m = 0 := Nat.le_zero.1 h.cap.1
    refine (markF_none A k0 w).mono ?_
    rintro e w' ⟨rfl, rfl⟩
    exact ⟨by simp, .inl ⟨rfl, rfl, rfl⟩, World.grownBy.refl w _⟩
  · have hown : w.ownsRow base 80 4 (.slice A m c) m xs := h.elim (fun h => absurd h.2.1 hc) id
    refine (CFixups.mark_any base A c m xs k0 w h0 hk0 hm hown).mono ?_
    rintro e w' ⟨rfl, o, g⟩
    exact ⟨rfl, .inr o, by rw [blk_own (n := m) hc]; exact g⟩
theorem markY_row (base : Nat) (A : Option Addr) (c m : Nat) (xs : List Value) (k0 : Int) (w : World) (h0 : 0 ≤ k0) (hk0 : k0 ≤ 4294967296) (hm : m ≤ 4294967296) (h : Row w base 69 4 A m c xs) :
    Calls Tryz.prog 78 #[.slice A m c, .int .i64 k0] w fun e w' => e = .returned (.int .i64 (k0 + 4 * m)) ∧ Row w' base 69 4 A m c (cellsOf symbolC (ymarks k0 m)) ∧ w.grownBy w' (blk A c) := by
  by_cases hc : c = 0
  · subst hc
    obtain rfl : m = 0 := Nat.le_zero.1 h.cap.1
    refine (markY_none A k0 w).mono ?_
    rintro e w' ⟨rfl, rfl⟩
    exact ⟨by simp, .inl ⟨rfl, rfl, rfl⟩, World.grownBy.refl w _⟩
  · have hown : w.ownsRow base 69 4 (.slice A m c) m xs := h.elim (fun h => absurd h.2.1 hc) id
    refine (ymark_any base A c m xs k0 w h0 hk0 hm hown).mono ?_
    rintro e w' ⟨rfl, o, g⟩
    exact ⟨rfl, .inr o, by rw [blk_own (n := m) hc]; exact g⟩
/-- Two rows of different types lie apart. -/
theorem apartT {w : World} {base base' : Nat} {e e' : TypeId} {size size' n n' c c' : Nat} {A A' : Option Addr} {xs xs' : List Value} (h : Row w base e size A n c xs) (h' : Row w base' e' size' A' n' c' xs') (hne : e ≠ e') : ∀ k, blk A c = some k → blk A' c' ≠ some k := by
  intro k hk hk'
  have hc : c' ≠ 0 := by
    intro h0
    rw [h0] at hk'
    cases hk'
  have hown : w.ownsRow base' e' size' (.slice A' n' c') n' xs' := h'.elim (fun h => absurd h.2.1 hc) id
  rcases hown.2 with ⟨hv, h0⟩ | ⟨g, cap, cur, hv, _, hg, _⟩
  · injection hv with hA
    subst hA
    unfold blk at hk'
    split at hk' <;> cases hk'
  · injection hv with hA
    subst hA
    have hkg : g = k := by
      unfold blk at hk'
      rw [if_neg hc] at hk'
      simpa using hk'
    subst hkg
    exact h.box (show Box w g e' cur from hg) hne g hk rfl
theorem RwS.apart {w : World} {b b' : Nat} {p q : SV} (hp : RwS w b p) (hq : RwS w b' q) (h : ApS p q) : ∀ k, sblk p k → ¬ sblk q k := by
  rintro k (hk | hk) (hk' | hk')
  · exact h.1 k hk hk'
  · exact apartT hp.1 hq.2 (by decide) k hk hk'
  · exact apartT hp.2 hq.1 (by decide) k hk hk'
  · exact h.2 k hk hk'
theorem ApS.symm {p q : SV} (h : ApS p q) : ApS q p := ⟨h.1.symm, h.2.symm⟩
/-- A section behind its marks from number k on. -/
def mS (k : Int) (p : SV) : SV := { p with nm := mtx k, kd := k + 1, al := k + 1 + 1, zs := CBytes.marks (k + 1 + 1 + 1) p.zs.length, sz := k + 1 + 1 + 1 + p.zs.length, fs := CFixups.marks (k + 1 + 1 + 1 + p.zs.length + 1) p.fs.length }
def wd (p : SV) : Int := 4 + p.zs.length + 4 * p.fs.length
def mSs : Int → List SV → List SV
  | _, [] => []
  | k, p :: ps => mS k p :: mSs (k + wd p) ps
def wds : List SV → Int
  | [] => 0
  | p :: ps => wd p + wds ps
theorem wds_nonneg : ∀ ps, 0 ≤ wds ps
  | [] => Int.le_refl 0
  | p :: ps => by
    have := wds_nonneg ps
    unfold wds wd
    omega
theorem wds_append : ∀ (ps qs : List SV), wds (ps ++ qs) = wds ps + wds qs
  | [], qs => by simp [wds]
  | p :: ps, qs => by
    have := wds_append ps qs
    simp only [List.cons_append, wds]
    omega
theorem mSs_len : ∀ (k : Int) (ps : List SV), (mSs k ps).length = ps.length
  | _, [] => rfl
  | k, p :: ps => by simp [mSs, mSs_len]
theorem mSs_snoc : ∀ (k : Int) (ps : List SV) (q : SV), mSs k (ps ++ [q]) = mSs k ps ++ [mS (k + wds ps) q]
  | k, [], q => by simp [mSs, wds]
  | k, p :: ps, q => by
    simp only [List.cons_append, mSs, wds, mSs_snoc (k + wd p) ps q]
    rw [show k + wd p + wds ps = k + (wd p + wds ps) by omega]
theorem mSs_mem : ∀ {k : Int} {ps : List SV} {x : SV}, x ∈ mSs k ps → ∃ q ∈ ps, ∃ k', x = mS k' q
  | _, [], _, h => by cases h
  | k, p :: ps, x, h => by
    rcases List.mem_cons.1 h with rfl | h
    · exact ⟨p, by simp, k, rfl⟩
    · obtain ⟨q, hq, k', e⟩ := mSs_mem h
      exact ⟨q, by simp [hq], k', e⟩
theorem mSs_get {k : Int} {ps : List SV} {j : Nat} (h : j < ps.length) : (mSs k ps)[j]'(by rw [mSs_len]; exact h) = mS (k + wds (ps.take j)) ps[j] := by
  have h1 : ps = ps.take j ++ ps[j] :: ps.drop (j + 1) := by rw [← List.drop_eq_getElem_cons h, List.take_append_drop]
  have h2 : ∀ (k : Int) (xs : List SV) (q : SV) (ys : List SV), mSs k (xs ++ q :: ys) = mSs k xs ++ mS (k + wds xs) q :: mSs (k + wds xs + wd q) ys := by
    intro k xs
    induction xs generalizing k with
    | nil => intro q ys; simp [mSs, wds]
    | cons x xs ih =>
      intro q ys
      simp only [List.cons_append, mSs, wds, ih]
      rw [show k + wd x + wds xs = k + (wd x + wds xs) by omega]
  have h3 := h2 k (ps.take j) ps[j] (ps.drop (j + 1))
  rw [← h1] at h3
  have h4 : (mSs k (ps.take j)).length = j := by rw [mSs_len, List.length_take]; omega
  rw [List.getElem_of_eq h3, List.getElem_append_right (by omega)]
  simp [h4]
theorem mSs_pw {k : Int} {ps : List SV} (h : PwSs ps) : PwSs (mSs k ps) := by
  induction ps generalizing k with
  | nil => exact List.Pairwise.nil
  | cons p ps ih =>
    obtain ⟨h1, h2⟩ := List.pairwise_cons.1 h
    refine List.pairwise_cons.2 ⟨fun x hx => ?_, ih h2⟩
    obtain ⟨q, hq, k', rfl⟩ := mSs_mem hx
    exact h1 q hq
theorem own_grown {w w' : World} {base g n c size : Nat} {e : TypeId} {xs : List Value} {v : Option Nat} (h : w.ownsRow base e size (.slice (some ⟨g, 0, none⟩) n c) n xs) (hg : w.grownBy w' v) (hv : v ≠ some g) : w'.ownsRow base e size (.slice (some ⟨g, 0, none⟩) n c) n xs :=
  own_keep h fun k hk => hg.block k (h.lt k hk).2 (fun e => hv (by
    have : g = k := by simpa [Value.ownBlock] using hk
    rw [← e, this]))
end Go.Proofs.YtmglgjchemecjaaGreat.CMarkRows
/- Contracts of the laws' helpers on one Section: the copy, the comparison of equal data, the size. -/
namespace Go.Proofs.YtmglgjchemecjaaGreat.CSection
set_option maxRecDepth 200000
open Go.ChangeShapes Go.WideShapes Go.ChangeAt Go.RowKit Kit CFixups CSymbols PObj BObj
theorem toSection_any (p : SV) (w : World) (hr : RdS w w.heap.size p) (h1 : p.zs.length ≤ 1048576) (h2 : p.fs.length ≤ 1048576) :
    Calls Tryz.prog 89 #[.agg #[.string p.nm, .int .i64 p.kd, .int .i64 p.al, .slice p.A p.zs.length p.c, .int .i64 p.sz, .slice p.F p.fs.length p.fc]] w (RetS p.d w) := by
  obtain ⟨nm, kd, al, A, c, zs, sz, F, fc, fs⟩ := p
  simp only at h1 h2 ⊢
  have HR := hide hr
  clear hr
  have HY := (Box.new (w.alloc (.cells #[.string nm, .int .i64 kd, .int .i64 al, .slice A zs.length c, .int .i64 sz, .slice F fs.length fc] 122)) 77 #[.string ⟨#[]⟩, .int .i64 0, .int .i64 0, .slice none 0 0, .int .i64 0, .slice none 0 0]).alloc (.cells #[.string nm, .int .i64 kd, .int .i64 al, .slice none 0 0, .int .i64 0, .slice none 0 0] 77)
  have HZ := Box.new ((w.alloc (.cells #[.string nm, .int .i64 kd, .int .i64 al, .slice A zs.length c, .int .i64 sz, .slice F fs.length fc] 122)).alloc (.cells #[.string ⟨#[]⟩, .int .i64 0, .int .i64 0, .slice none 0 0, .int .i64 0, .slice none 0 0] 77)) 77 #[.string nm, .int .i64 kd, .int .i64 al, .slice none 0 0, .int .i64 0, .slice none 0 0]
  have HV := ((Box.new w 122 #[.string nm, .int .i64 kd, .int .i64 al, .slice A zs.length c, .int .i64 sz, .slice F fs.length fc]).alloc (.cells #[.string ⟨#[]⟩, .int .i64 0, .int .i64 0, .slice none 0 0, .int .i64 0, .slice none 0 0] 77)).alloc (.cells #[.string nm, .int .i64 kd, .int .i64 al, .slice none 0 0, .int .i64 0, .slice none 0 0] 77)
  have B0 : Below w.heap.size w (((w.alloc (.cells #[.string nm, .int .i64 kd, .int .i64 al, .slice A zs.length c, .int .i64 sz, .slice F fs.length fc] 122)).alloc (.cells #[.string ⟨#[]⟩, .int .i64 0, .int .i64 0, .slice none 0 0, .int .i64 0, .slice none 0 0] 77)).alloc (.cells #[.string nm, .int .i64 kd, .int .i64 al, .slice none 0 0, .int .i64 0, .slice none 0 0] 77)) := (by repeat (first | exact Below.refl _ _ | with_reducible assumption | (refine Below.drew ?_) | (refine Below.drewN ?_ _) | (refine Below.alloc ?_ (by simp; try omega) _) | (refine Below.setCell ?_ (by simp; try omega) _)))
  simp only [World.size_alloc] at HY HZ
  have hYX : w.heap.size + 1 < w.heap.size + 1 + 1 := by omega
  have hVY : w.heap.size < w.heap.size + 1 := by omega
  have HB := hide B0
  clear B0
  go_enter Tryz.func89, Tryz.ntmps89
  go_wp2_with fail
  generalize (((w.alloc (.cells #[.string nm, .int .i64 kd, .int .i64 al, .slice A zs.length c, .int .i64 sz, .slice F fs.length fc] 122)).alloc (.cells #[.string ⟨#[]⟩, .int .i64 0, .int .i64 0, .slice none 0 0, .int .i64 0, .slice none 0 0] 77)).alloc (.cells #[.string nm, .int .i64 kd, .int .i64 al, .slice none 0 0, .int .i64 0, .slice none 0 0] 77)) = w0 at *
  generalize w.heap.size + 1 + 1 = X at *
  generalize w.heap.size + 1 = Y at *
  refine (CBytes.toByteS_any A zs c w0 ((HR.out.1.below HB.out).more HB.out.size) h1).mono ?_
  rintro e w1 ⟨A1, c1, rfl, o1, b1⟩
  have HY1 := hide (HY.call b1)
  have HZ1 := hide (HZ.call b1)
  have HV1 := hide (HV.call b1)
  have HB1 := hide (HB.out.trans (b1.mono HB.out.size))
  have HO := hide (show Row w1 w0.heap.size 5 1 A1 zs.length c1 (ints .u8 zs) from .inr o1)
  have hX0 : X < w0.heap.size := HZ.lt
  have z3 := HZ1.out.cell 3
  have z4 := HZ1.out.cell 4
  have z5 := HZ1.out.cell 5
  have zf3 := HZ1.out.frozen 3
  have zf4 := HZ1.out.frozen 4
  have zf5 := HZ1.out.frozen 5
  have v4 := HV1.out.cell 4
  have v5 := HV1.out.cell 5
  simp only [List.getElem?_toArray, List.getElem?_cons_zero, List.getElem?_cons_succ] at z3 z4 z5 v4 v5
  clear HY HZ HV o1 b1 HB
  have hne : w.heap.size ≠ X := by omega
  have hnY : Y ≠ X := by omega
  have hle : w.heap.size ≤ X := by omega
  go_wp2_with fail
  have HB2 := hide ((HB1.out.setCell (p := ⟨X, 3, none⟩) hle (.slice A1 zs.length c1)).setCell (p := ⟨X, 4, none⟩) hle (.int .i64 sz))
  have hk1 : ∀ k, blk A1 c1 = some k → k ≠ X := fun k hk => by have := (HO.out.lt k hk).1; omega
  have HO2 := hide ((HO.out.set (a := ⟨X, 3, none⟩) hk1 (.slice A1 zs.length c1)).set (a := ⟨X, 4, none⟩) hk1 (.int .i64 sz))
  have HY2 := hide ((HY1.out.far (p := ⟨X, 3, none⟩) hnY (.slice A1 zs.length c1)).far (p := ⟨X, 4, none⟩) hnY (.int .i64 sz))
  have HZ2 := hide (show Box ((w1.setCell ⟨X, 3, none⟩ (.slice A1 zs.length c1)).setCell ⟨X, 4, none⟩ (.int .i64 sz)) X 77 #[.string nm, .int .i64 kd, .int .i64 al, .slice A1 zs.length c1, .int .i64 sz, .slice none 0 0] from (HZ1.out.set 3 (.slice A1 zs.length c1)).set 4 (.int .i64 sz))
  clear HB1 HO HY1 HZ1 HV1 z3 z4 z5 zf3 zf4 zf5 v4 v5
  generalize (w1.setCell ⟨X, 3, none⟩ (.slice A1 zs.length c1)).setCell ⟨X, 4, none⟩ (.int .i64 sz) = w2 at *
  refine (toFixupS_any F fs fc w2 ((HR.out.2.below HB2.out).more HB2.out.size) h2).mono ?_
  rintro e w3 ⟨F1, fc1, rfl, o3, b3⟩
  have HB3 := hide (HB2.out.trans (b3.mono HB2.out.size))
  have HO3 := hide (HO2.out.call b3)
  have HF3 := hide (show Row w3 w2.heap.size 80 4 F1 fs.length fc1 (cellsOf fixupC fs) from .inr o3)
  have HY3 := hide (HY2.out.call b3)
  have HZ3 := hide (HZ2.out.call b3)
  have hX2 : X < w2.heap.size := HZ2.out.lt
  have hZ3 := HZ3.out.lt
  have hY3 := HY3.out.lt
  have z0 := HZ3.out.cell 0
  have z1 := HZ3.out.cell 1
  have z2 := HZ3.out.cell 2
  have z3 := HZ3.out.cell 3
  have z4 := HZ3.out.cell 4
  have z5 := HZ3.out.cell 5
  have zf5 := HZ3.out.frozen 5
  have y0 := HY3.out.cell 0
  have y1 := HY3.out.cell 1
  have y2 := HY3.out.cell 2
  have y3 := HY3.out.cell 3
  have y4 := HY3.out.cell 4
  have y5 := HY3.out.cell 5
  have yf0 := HY3.out.frozen 0
  have yf1 := HY3.out.frozen 1
  have yf2 := HY3.out.frozen 2
  have yf3 := HY3.out.frozen 3
  have yf4 := HY3.out.frozen 4
  have yf5 := HY3.out.frozen 5
  simp only [List.getElem?_toArray, List.getElem?_cons_zero, List.getElem?_cons_succ] at z0 z1 z2 z3 z4 z5 y0 y1 y2 y3 y4 y5
  have hk2 : ∀ k, blk A1 c1 = some k → k ≠ X := hk1
  have hk3 : ∀ k, blk F1 fc1 = some k → k ≠ X := fun k hk => by have := (HF3.out.lt k hk).1; omega
  have hk4 : ∀ k, blk A1 c1 = some k → k ≠ Y := fun k hk => by have := (HO3.out.lt k hk).1; omega
  have hk5 : ∀ k, blk F1 fc1 = some k → k ≠ Y := fun k hk => by have := (HF3.out.lt k hk).1; omega
  have HQ := hide (show RwS (w3.setCell ⟨X, 5, none⟩ (.slice F1 fs.length fc1)) w.heap.size ⟨nm, kd, al, A1, c1, zs, sz, F1, fc1, fs⟩ from ⟨(HO3.out.set (a := ⟨X, 5, none⟩) hk2 _).down (by omega), (HF3.out.set (a := ⟨X, 5, none⟩) hk3 _).down HB2.out.size⟩)
  have HB4 := hide (HB3.out.setCell (p := ⟨X, 5, none⟩) hle (.slice F1 fs.length fc1))
  have HY4 := hide (HY3.out.far (p := ⟨X, 5, none⟩) hnY (.slice F1 fs.length fc1))
  have hse : ∀ k, sblk ⟨nm, kd, al, A1, c1, zs, sz, F1, fc1, fs⟩ k → k ≠ Y := by
    rintro k (hk | hk)
    · exact hk4 k hk
    · exact hk5 k hk
  have HE := hide hse
  clear hse hk1 hk2 hk3 hk4 hk5 b3 o3 HO3 HF3 HB2 HB3 HO2 HY2 HZ2 HY3 HZ3
  have k := six_box HY4.out (.string nm) (.int .i64 kd) (.int .i64 al) (.slice A1 zs.length c1) (.int .i64 sz) (.slice F1 fs.length fc1)
  have k0 := k.cell 0
  have k1 := k.cell 1
  have k2 := k.cell 2
  have k3 := k.cell 3
  have k4 := k.cell 4
  have k5 := k.cell 5
  simp only [List.getElem?_toArray, List.getElem?_cons_zero, List.getElem?_cons_succ] at k0 k1 k2 k3 k4 k5
  clear k
  go_wp2_with fail
  exact bodyPost_ret (v := .agg (secC ⟨nm, kd, al, A1, c1, zs, sz, F1, fc1, fs⟩).toArray) (by simp [results, Tryz.results89, go_sem, secC, k0, k1, k2, k3, k4, k5]) rfl ⟨⟨nm, kd, al, A1, c1, zs, sz, F1, fc1, fs⟩, rfl, rfl, put6_rwS HQ.out HE.out, put6_below HB4.out (Nat.le_of_lt hVY)⟩
theorem eqSection_same (p q : SV) (w : World) (h : RdS w w.heap.size p) (h' : RdS w w.heap.size q) (hd : p.d = q.d) (h1 : p.zs.length ≤ maxLen) (h2 : p.fs.length ≤ maxLen) :
    Calls Tryz.prog 97 #[.agg (secC p).toArray, .agg (secC q).toArray] w (Ret (.bool true) w) := by
  obtain ⟨nm, kd, al, A, c, zs, sz, F, fc, fs⟩ := p
  obtain ⟨nm', kd', al', A', c', zs', sz', F', fc', fs'⟩ := q
  simp only [SV.d, SD.mk.injEq] at hd
  obtain ⟨rfl, rfl, rfl, rfl, rfl, rfl⟩ := hd
  simp only [secC] at h1 h2 ⊢
  have B0 : Below w.heap.size w ((w.alloc (.cells #[.string nm, .int .i64 kd, .int .i64 al, .slice A zs.length c, .int .i64 sz, .slice F fs.length fc] 77)).alloc (.cells #[.string nm, .int .i64 kd, .int .i64 al, .slice A' zs.length c', .int .i64 sz, .slice F' fs.length fc'] 77)) := (by repeat (first | exact Below.refl _ _ | with_reducible assumption | (refine Below.drew ?_) | (refine Below.drewN ?_ _) | (refine Below.alloc ?_ (by simp; try omega) _) | (refine Below.setCell ?_ (by simp; try omega) _)))
  have X0 := (Box.new w 77 #[.string nm, .int .i64 kd, .int .i64 al, .slice A zs.length c, .int .i64 sz, .slice F fs.length fc]).alloc (.cells #[.string nm, .int .i64 kd, .int .i64 al, .slice A' zs.length c', .int .i64 sz, .slice F' fs.length fc'] 77)
  have Y0 := Box.new (w.alloc (.cells #[.string nm, .int .i64 kd, .int .i64 al, .slice A zs.length c, .int .i64 sz, .slice F fs.length fc] 77)) 77 #[.string nm, .int .i64 kd, .int .i64 al, .slice A' zs.length c', .int .i64 sz, .slice F' fs.length fc']
  simp only [World.size_alloc] at Y0
  have HB := hide B0
  have HR := hide (And.intro h h')
  clear B0 h h'
  go_enter Tryz.func97, Tryz.ntmps97
  go_wp2_with fail
  generalize (w.alloc (.cells #[.string nm, .int .i64 kd, .int .i64 al, .slice A zs.length c, .int .i64 sz, .slice F fs.length fc] 77)).alloc (.cells #[.string nm, .int .i64 kd, .int .i64 al, .slice A' zs.length c', .int .i64 sz, .slice F' fs.length fc'] 77) = w0 at *
  refine (CBytes.eqByteS_any A A' zs zs c c' _ _ ((HR.out.1.1.below HB.out).more HB.out.size) ((HR.out.2.1.below HB.out).more HB.out.size) h1 h1).mono ?_
  rintro e w1 ⟨rfl, n1, rfl⟩
  simp only [beq_self_eq_true]
  have HB1 := hide (Kit.Below.drewN HB.out n1)
  have X1 := X0.drewN n1
  have Y1 := Y0.drewN n1
  generalize w0.drewN n1 = w1 at *
  have x4 := X1.cell 4
  have x5 := X1.cell 5
  have y4 := Y1.cell 4
  have y5 := Y1.cell 5
  simp only [List.getElem?_toArray, List.getElem?_cons_zero, List.getElem?_cons_succ] at x4 x5 y4 y5
  clear X0 Y0 X1 Y1 HB
  go_wp2_with fail
  refine (eqFixupS_same F F' fs fc fc' _ ((HR.out.1.2.below HB1.out).more HB1.out.size) ((HR.out.2.2.below HB1.out).more HB1.out.size) h2).mono ?_
  rintro e w2 ⟨rfl, b2⟩
  have HB2 := hide (HB1.out.trans (b2.mono HB1.out.size))
  clear b2
  go_wp2_with fail
  go_ret
  exact ⟨rfl, HB2.out⟩
def szI (left : Int) (n : Nat) : Int := if left - n < 0 then -1 else left - n
theorem szByteS_any (A : Option Addr) (n c : Nat) (left : Int) (w : World) (h0 : 0 ≤ left) (h1 : left ≤ 1048576) (hn : n ≤ maxLen) : Calls Tryz.prog 135 #[.slice A n c, .int .i64 left] w (Ret (.int .i64 (szI left n)) w) := by
  unfold maxLen at hn
  unfold szI
  by_cases h : left - n < 0
  · rw [if_pos h]
    go_enter Tryz.func135, Tryz.ntmps135
    go_wp2
    go_ret
    exact ⟨rfl, (by repeat (first | exact Below.refl _ _ | with_reducible assumption | (refine Below.drew ?_) | (refine Below.drewN ?_ _) | (refine Below.alloc ?_ (by simp; try omega) _) | (refine Below.setCell ?_ (by simp; try omega) _)))⟩
  · rw [if_neg h]
    go_enter Tryz.func135, Tryz.ntmps135
    go_wp2
    go_ret
    exact ⟨rfl, (by repeat (first | exact Below.refl _ _ | with_reducible assumption | (refine Below.drew ?_) | (refine Below.drewN ?_ _) | (refine Below.alloc ?_ (by simp; try omega) _) | (refine Below.setCell ?_ (by simp; try omega) _)))⟩
theorem szFixupS_any (A : Option Addr) (n c : Nat) (left : Int) (w : World) (h0 : 0 ≤ left) (h1 : left ≤ 1048576) (hn : n ≤ maxLen) : Calls Tryz.prog 136 #[.slice A n c, .int .i64 left] w (Ret (.int .i64 (szI left n)) w) := by
  unfold maxLen at hn
  unfold szI
  by_cases h : left - n < 0
  · rw [if_pos h]
    go_enter Tryz.func136, Tryz.ntmps136
    go_wp2
    go_ret
    exact ⟨rfl, (by repeat (first | exact Below.refl _ _ | with_reducible assumption | (refine Below.drew ?_) | (refine Below.drewN ?_ _) | (refine Below.alloc ?_ (by simp; try omega) _) | (refine Below.setCell ?_ (by simp; try omega) _)))⟩
  · rw [if_neg h]
    go_enter Tryz.func136, Tryz.ntmps136
    go_wp2
    go_ret
    exact ⟨rfl, (by repeat (first | exact Below.refl _ _ | with_reducible assumption | (refine Below.drew ?_) | (refine Below.drewN ?_ _) | (refine Below.alloc ?_ (by simp; try omega) _) | (refine Below.setCell ?_ (by simp; try omega) _)))⟩
def szJ (left k : Int) : Int := if left - k < 0 then -1 else left - k
theorem szJ_neg {left k : Int} (h : left - k < 0) : szJ left k = -1 := if_pos h
theorem szJ_pos {left k : Int} (h : ¬ left - k < 0) : szJ left k = left - k := if_neg h
/-- A section's size: -1, or what is left. -/
theorem szSection_any (p : SV) (left : Int) (w : World) (h0 : 0 ≤ left) (h1 : left ≤ 1048576) (hs : p.nm.size ≤ maxLen) (hn : p.zs.length ≤ maxLen) (hf : p.fs.length ≤ maxLen) :
    Calls Tryz.prog 80 #[.agg #[.string p.nm, .int .i64 p.kd, .int .i64 p.al, .slice p.A p.zs.length p.c, .int .i64 p.sz, .slice p.F p.fs.length p.fc], .int .i64 left] w (Ret (.int .i64 (szJ left (wt p.d))) w) := by
  obtain ⟨nm, kd, al, A, c, zs, sz, F, fc, fs⟩ := p
  have hw : wt (SV.d ⟨nm, kd, al, A, c, zs, sz, F, fc, fs⟩) = nm.size + zs.length + fs.length := rfl
  rw [hw]
  clear hw
  simp only at hs hn hf ⊢
  have HN := hide (And.intro hn hf)
  unfold maxLen at hs hn hf
  have B0 : Below w.heap.size w (w.alloc (.cells #[.string nm, .int .i64 kd, .int .i64 al, .slice A zs.length c, .int .i64 sz, .slice F fs.length fc] 122)) := (by repeat (first | exact Below.refl _ _ | with_reducible assumption | (refine Below.drew ?_) | (refine Below.drewN ?_ _) | (refine Below.alloc ?_ (by simp; try omega) _) | (refine Below.setCell ?_ (by simp; try omega) _)))
  have X0 := Box.new w 122 #[.string nm, .int .i64 kd, .int .i64 al, .slice A zs.length c, .int .i64 sz, .slice F fs.length fc]
  have HB := hide B0
  clear B0
  by_cases k0 : left - nm.size < 0
  · rw [szJ_neg (by omega)]
    go_enter Tryz.func80, Tryz.ntmps80
    go_wp2_with fail
    go_ret
    exact ⟨rfl, HB.out⟩
  by_cases k1 : left - nm.size - zs.length < 0
  · rw [szJ_neg (by omega)]
    have e1 : szI (left - nm.size) zs.length = -1 := by rw [szI, if_pos k1]
    go_enter Tryz.func80, Tryz.ntmps80
    go_wp2_with fail
    refine (szByteS_any A zs.length c (left - nm.size) _ (by omega) (by omega) HN.out.1).mono ?_
    rintro e w1 ⟨rfl, b1⟩
    rw [e1]
    have HB1 := hide (HB.out.trans (b1.mono HB.out.size))
    clear b1 e1
    go_wp2_with fail
    go_ret
    exact ⟨rfl, HB1.out⟩
  have e1 : szI (left - nm.size) zs.length = left - nm.size - zs.length := by rw [szI, if_neg k1]
  by_cases k2 : left - nm.size - zs.length - fs.length < 0
  · rw [szJ_neg (by omega)]
    have e2 : szI (left - nm.size - zs.length) fs.length = -1 := by rw [szI, if_pos k2]
    have HE := hide (And.intro e1 e2)
    clear e1 e2
    go_enter Tryz.func80, Tryz.ntmps80
    go_wp2_with fail
    refine (szByteS_any A zs.length c (left - nm.size) _ (by omega) (by omega) HN.out.1).mono ?_
    rintro e w1 ⟨rfl, b1⟩
    rw [HE.out.1]
    have HB1 := hide (HB.out.trans (b1.mono HB.out.size))
    have X1 := X0.call b1
    have x5 := X1.cell 5
    simp only [List.getElem?_toArray, List.getElem?_cons_zero, List.getElem?_cons_succ] at x5
    clear b1 X0 X1
    go_wp2_with fail
    refine (szFixupS_any F fs.length fc (left - nm.size - zs.length) _ (by omega) (by omega) HN.out.2).mono ?_
    rintro e w2 ⟨rfl, b2⟩
    rw [HE.out.2]
    have HB2 := hide (HB1.out.trans (b2.mono HB1.out.size))
    clear b2
    go_wp2_with fail
    go_ret
    exact ⟨rfl, HB2.out⟩
  · rw [szJ_pos (by omega)]
    have e2 : szI (left - nm.size - zs.length) fs.length = left - nm.size - zs.length - fs.length := by rw [szI, if_neg k2]
    have HE := hide (And.intro e1 e2)
    have HL := hide (show left - nm.size - zs.length - fs.length = left - (nm.size + zs.length + fs.length) by omega)
    clear e1 e2
    go_enter Tryz.func80, Tryz.ntmps80
    go_wp2_with fail
    refine (szByteS_any A zs.length c (left - nm.size) _ (by omega) (by omega) HN.out.1).mono ?_
    rintro e w1 ⟨rfl, b1⟩
    rw [HE.out.1]
    have HB1 := hide (HB.out.trans (b1.mono HB.out.size))
    have X1 := X0.call b1
    have x5 := X1.cell 5
    simp only [List.getElem?_toArray, List.getElem?_cons_zero, List.getElem?_cons_succ] at x5
    clear b1 X0 X1
    go_wp2_with fail
    refine (szFixupS_any F fs.length fc (left - nm.size - zs.length) _ (by omega) (by omega) HN.out.2).mono ?_
    rintro e w2 ⟨rfl, b2⟩
    rw [HE.out.2]
    have HB2 := hide (HB1.out.trans (b2.mono HB1.out.size))
    clear b2
    go_wp2_with fail
    go_ret
    exact ⟨by rw [HL.out]; rfl, HB2.out⟩
end Go.Proofs.YtmglgjchemecjaaGreat.CSection
/- Contracts of the laws' helpers on []Section: the copy, the comparison of equal data, the size. -/
namespace Go.Proofs.YtmglgjchemecjaaGreat.CSections
set_option maxRecDepth 200000
open Go.ChangeShapes Go.WideShapes Go.ChangeAt Go.RowKit Kit CFixups CSymbols PObj BObj CSection
/-- The sizes that the laws' count allows. -/
def Lim (p : SV) : Prop := p.zs.length ≤ 1048576 ∧ p.fs.length ≤ 1048576
theorem toSectionS_any (A : Option Addr) (ps : List SV) (c : Nat) (w : World) (hr : RdSs w w.heap.size A ps) (hm : ps.length ≤ 1048576) (hl : ∀ p ∈ ps, Lim p) :
    Calls Tryz.prog 33 #[.slice A ps.length c] w (RetSs (ps.map SV.d) w) := by
  obtain ⟨i0, hi, hz0, hz1, hz2⟩ := info_parts BObj.info
  go_enter Tryz.func33, Tryz.ntmps33
  go_wp2_with (at_make; refine wpList_make_full _ rfl _ _ _ rfl w.heap.size 77 i0 (.agg #[.string ByteArray.empty, .int .i64 0, .int .i64 0, .slice none 0 0, .int .i64 0, .slice none 0 0]) 6 Tryz.underlying28 hi hz0 hz1 .i64 .i64 _ _ ps.length rfl rfl rfl rfl ?c1 ?c2 ?c3 ?_)
  case c1 => rw [hz2]; omega
  case c2 => unfold maxLen; omega
  case c3 => exact Nat.le_refl _
  intro w1 hown hg
  have hb1 : Below w.heap.size w w1 := (Below.refl _ _).grown hg (Nat.le_refl _) (by intro k h; cases h)
  clear hg
  have hown1 : ∃ xs, w1.ownsRow w.heap.size 77 6 (.slice (some ⟨w.heap.size, 0, none⟩) ps.length ps.length) ps.length xs := ⟨_, hown⟩
  clear hown
  go_wp2
  go_loopw [4] (fun i wr => ∃ (k : Nat) (qs : List SV), qs.length = k ∧ k ≤ ps.length ∧ i = .int .i64 k ∧ qs.map SV.d = (ps.take k).map SV.d ∧ (∃ xs, wr.ownsRow w.heap.size 77 6 (.slice (some ⟨w.heap.size, 0, none⟩) ps.length ps.length) ps.length (cellsOf secC qs ++ xs)) ∧ RwSs wr w.heap.size qs ∧ PwSs qs ∧ Below w.heap.size w wr) (fun i _ => ps.length - (intOf i).toNat)
  case atStart => exact ⟨0, [], rfl, Nat.zero_le _, rfl, rfl, by simpa [cellsOf] using hown1, (fun p hp => by cases hp), List.Pairwise.nil, hb1⟩
  case round =>
    obtain ⟨k, qs, hql, hk, rfl, hd, ⟨xs, ho⟩, hrw, hpw, hb⟩ := hrel
    clear hown1 hb1
    by_cases hlt : k < ps.length
    · obtain ⟨b, off, rfl, hbg, hc⟩ := (hr.1.below hb).row secC_len (by decide) hlt
      have hc0 := hc 0 _ rfl
      have hc1 := hc 1 _ rfl
      have hc2 := hc 2 _ rfl
      have hc3 := hc 3 _ rfl
      have hc4 := hc 4 _ rfl
      have hc5 := hc 5 _ rfl
      simp only [Nat.add_zero] at hc0
      have hll := ho.1
      have HO := hide ho
      have HB := hide hb
      have HR := hide (((hr.2 _ (List.getElem_mem hlt)).below hb).more hb.size)
      have HM := hide (hl _ (List.getElem_mem hlt))
      have HW := hide (And.intro hrw hpw)
      have HD := hide (show (qs ++ [ps[k]]).map SV.d = (ps.take (k + 1)).map SV.d by rw [take_succ hlt, List.map_append, List.map_append, hd])
      clear hr ho hb hc hrw hpw hd
      generalize ps[k] = p at *
      go_wp2_with fail
      refine (toSection_any p _ HR.out HM.out.1 HM.out.2).mono ?_
      rintro e w2 ⟨q, rfl, hqd, r1, hb2⟩
      have HF : Hid (∀ p ∈ qs, ∀ k, sblk p k → k ≠ w.heap.size) := hide (by
        obtain ⟨cs, hbx⟩ := box_of_own HO.out
        exact fun p hp => (HW.out.1 p hp).box hbx (by decide) (by decide))
      have ho := own_call hb2 HO.out
      have hb' := HB.out.trans (hb2.mono HB.out.size)
      obtain ⟨⟨old0, hk0⟩, hfz0⟩ := own_old ho (j := k * 6) (by omega)
      obtain ⟨⟨old1, hk1⟩, hfz1⟩ := own_old ho (j := k * 6 + 1) (by omega)
      obtain ⟨⟨old2, hk2⟩, hfz2⟩ := own_old ho (j := k * 6 + 2) (by omega)
      obtain ⟨⟨old3, hk3⟩, hfz3⟩ := own_old ho (j := k * 6 + 3) (by omega)
      obtain ⟨⟨old4, hk4⟩, hfz4⟩ := own_old ho (j := k * 6 + 4) (by omega)
      obtain ⟨⟨old5, hk5⟩, hfz5⟩ := own_old ho (j := k * 6 + 5) (by omega)
      have hpl : (cellsOf secC qs).length = k * 6 := by rw [cellsOf_len secC_len, hql]
      have ho1 := own_put ho hpl (by omega) (.string q.nm)
      have ho2 := own_put ho1 (j := k * 6 + 1) (by simp only [List.length_append, hpl]; rfl) (by omega) (.int .i64 q.kd)
      have ho3 := own_put ho2 (j := k * 6 + 2) (by simp only [List.length_append, hpl]; rfl) (by omega) (.int .i64 q.al)
      have ho4 := own_put ho3 (j := k * 6 + 3) (by simp only [List.length_append, hpl]; rfl) (by omega) (.slice q.A q.zs.length q.c)
      have ho5 := own_put ho4 (j := k * 6 + 4) (by simp only [List.length_append, hpl]; rfl) (by omega) (.int .i64 q.sz)
      have ho6 := own_put ho5 (j := k * 6 + 5) (by simp only [List.length_append, hpl]; rfl) (by omega) (.slice q.F q.fs.length q.fc)
      have HF1 : ∀ k, sblk q k → k ≠ w.heap.size := by
        obtain ⟨cs, hbx⟩ := box_of_own ho
        exact r1.box hbx (by decide) (by decide)
      have HO' := hide ho6
      have HB' := hide hb'
      have HW' := hide (show RwSs (put6 w2 w.heap.size (k * 6) (.string q.nm) (.int .i64 q.kd) (.int .i64 q.al) (.slice q.A q.zs.length q.c) (.int .i64 q.sz) (.slice q.F q.fs.length q.fc)) w.heap.size qs from fun x hx => put6_rwS ((HW.out.1.call hb2) x hx) (HF.out x hx))
      have HQ' := hide (put6_rwS (i := k * 6) (v0 := .string q.nm) (v1 := .int .i64 q.kd) (v2 := .int .i64 q.al) (v3 := .slice q.A q.zs.length q.c) (v4 := .int .i64 q.sz) (v5 := .slice q.F q.fs.length q.fc) (r1.down HB.out.size) HF1)
      have HP' := hide (HW.out.2.snoc (q := q) (fun x hx j hj => ((HW.out.1 x hx).lt j hj).2) (fun j hj => (r1.lt j hj).1))
      have HQD := hide hqd
      clear ho ho1 ho2 ho3 ho4 ho5 ho6 hpl hb' HO HB hb2 HW HF HF1 r1 HR hqd
      simp only [secC]
      go_wp2_with fail
      refine ⟨⟨k + 1, qs ++ [q], by simp [hql], by omega, by go_num, ?_, ⟨xs.tail.tail.tail.tail.tail.tail, ?_⟩, ?_, HP'.out, ?_⟩, by simp [intOf]; omega⟩
      · rw [← HD.out, List.map_append, List.map_append, List.map_singleton, List.map_singleton, HQD.out]
      · rw [cells_snoc]
        simpa [secC] using HO'.out
      · exact HW'.out.snoc HQ'.out
      · exact put6_below (i := k * 6) HB'.out (Nat.le_refl _)
    · have e : k = ps.length := by omega
      subst e
      have hxs : xs = [] := by
        have := ho.1
        rw [List.length_append, cellsOf_len secC_len] at this
        exact List.eq_nil_of_length_eq_zero (by omega)
      subst hxs
      rw [List.take_length] at hd
      rw [List.append_nil] at ho
      have HH := hide (show RetSs (ps.map SV.d) w (.returned (.slice (some ⟨w.heap.size, 0, none⟩) ps.length ps.length)) _ from ⟨_, ps.length, qs, by rw [hql], hd, ⟨.inr (by rw [hql]; exact ho), hrw, hpw⟩, hb⟩)
      clear hr ho hd hrw hpw hb
      go_wp2
      go_ret
      exact HH.out
set_option maxRecDepth 20000 in
theorem eqSectionS_same (A A' : Option Addr) (ps qs : List SV) (c c' : Nat) (w : World) (hr : RdSs w w.heap.size A ps) (hr' : RdSs w w.heap.size A' qs) (hd : ps.map SV.d = qs.map SV.d) (hm : ps.length ≤ maxLen) (hl : ∀ p ∈ ps, p.zs.length ≤ maxLen ∧ p.fs.length ≤ maxLen) :
    Calls Tryz.prog 37 #[.slice A ps.length c, .slice A' qs.length c'] w (Ret (.bool true) w) := by
  unfold maxLen at hm
  have hlen : ps.length = qs.length := by simpa using congrArg List.length hd
  rw [← hlen]
  have HL := hide hlen
  clear hlen
  have h0 : (((ps.length : Nat) : Int) != (ps.length : Nat)) = false := by simp
  go_enter Tryz.func37, Tryz.ntmps37
  go_wp2
  clear h0
  go_loopw [5] (fun i wr => ∃ k : Nat, k ≤ ps.length ∧ i = .int .i64 k ∧ Below w.heap.size w wr) (fun i _ => ps.length - (intOf i).toNat)
  case atStart => exact ⟨0, Nat.zero_le _, rfl, Below.refl _ _⟩
  case round =>
    obtain ⟨k, hk, rfl, hb⟩ := hrel
    have HB := hide hb
    by_cases hlt : k < ps.length
    · obtain ⟨b, off, rfl, _, hc⟩ := (hr.1.below hb).row secC_len (by decide) hlt
      obtain ⟨b', off', rfl, _, hd'⟩ := (hr'.1.below hb).row secC_len (by decide) (show k < qs.length by rw [← HL.out]; exact hlt)
      have hc0 := hc 0 _ rfl
      have hd0 := hd' 0 _ rfl
      have hc1 := hc 1 _ rfl
      have hd1 := hd' 1 _ rfl
      have hc2 := hc 2 _ rfl
      have hd2 := hd' 2 _ rfl
      have hc3 := hc 3 _ rfl
      have hd3 := hd' 3 _ rfl
      have hc4 := hc 4 _ rfl
      have hd4 := hd' 4 _ rfl
      have hc5 := hc 5 _ rfl
      have hd5 := hd' 5 _ rfl
      simp only [Nat.add_zero] at hc0 hd0
      have hkq : k < qs.length := by rw [← HL.out]; exact hlt
      have hkd : (ps[k]).d = (qs[k]).d := by
        have := congrArg (fun l => l[k]?) hd
        simpa [List.getElem?_map, List.getElem?_eq_getElem hlt, List.getElem?_eq_getElem hkq] using this
      have HM := hide (hl _ (List.getElem_mem hlt))
      have HR1 := hide (((hr.2 _ (List.getElem_mem hlt)).below hb).more hb.size)
      have HR2 := hide (((hr'.2 _ (List.getElem_mem hkq)).below hb).more hb.size)
      have HD := hide hkd
      clear hr hr' hc hd' hb hd hkd
      generalize ps[k] = p at *
      generalize qs[k] = q at *
      go_wp2_with fail
      go_still_tail 8, (by kernel_rfl)
      change wpList _ _ _ _ _ wr.drew
      clear hc0 hd0 hc1 hd1 hc2 hd2 hc3 hd3 hc4 hd4 hc5 hd5
      go_wp2_with fail
      refine (eqSection_same p q _ (by exact HR1.out) (by exact HR2.out) HD.out HM.out.1 HM.out.2).mono ?_
      rintro e w2 ⟨rfl, hb2⟩
      have HB' := hide (HB.out.trans ((of_drew hb2).mono HB.out.size))
      clear hb2
      go_wp2_with fail
      go_roundw
      case rel =>
        exact ⟨k + 1, by omega, by go_num, HB'.out⟩
      case measure => simp [intOf]; omega
    · clear hr hr'
      go_wp2_with fail
      go_ret
      exact ⟨rfl, HB.out⟩
def dat (ps : List SV) : List SD := ps.map SV.d
theorem szSectionS_any (A : Option Addr) (ps : List SV) (c : Nat) (left : Int) (w : World) (h0 : 0 ≤ left) (h1 : left ≤ 1048576) (hr : Rd w w.heap.size A (cellsOf secC ps)) (hn : ps.length ≤ maxLen) (hl : ∀ p ∈ ps, p.nm.size ≤ maxLen ∧ p.zs.length ≤ maxLen ∧ p.fs.length ≤ maxLen) :
    Calls Tryz.prog 29 #[.slice A ps.length c, .int .i64 left] w fun e w' => (∃ r, e = .returned (.int .i64 r) ∧ (r = -1 ∨ 0 ≤ r ∧ r ≤ left ∧ r + ps.length + tot (ps.map SV.d) = left)) ∧ Below w.heap.size w w' := by
  have hn' := hn
  unfold maxLen at hn'
  by_cases hf : left - ps.length < 0
  · go_enter Tryz.func29, Tryz.ntmps29
    clear hr
    go_wp2
    go_ret
    exact ⟨⟨_, rfl, .inl rfl⟩, Below.refl _ _⟩
  · go_enter Tryz.func29, Tryz.ntmps29
    have HR := hide hr
    clear hr
    have hDl : (ps.map SV.d).length = ps.length := List.length_map _
    generalize hD : ps.map SV.d = ds at *
    have HDD := hide hD
    clear hD
    go_wp2
    go_loopw [1, 5] (fun l i wr => ∃ (k : Nat) (x : Int), k ≤ ps.length ∧ i = .int .i64 k ∧ l = .int .i64 x ∧ 0 ≤ x ∧ x + (ps.length + (tot ds - tot (ds.drop k))) = left ∧ Below w.heap.size w wr) (fun _ i _ => ps.length - (intOf i).toNat)
    case atStart => exact ⟨0, left - ps.length, Nat.zero_le _, rfl, by go_num, by omega, by rw [List.drop_zero]; omega, Below.refl _ _⟩
    case round =>
      obtain ⟨k, x, hk, rfl, rfl, hx0, hx1, hb⟩ := hrel
      have HB := hide hb
      have hx2 : x ≤ left := by
        have := tot_drop_le ds k
        omega
      by_cases hlt : k < ps.length
      · obtain ⟨b, off, rfl, _, hc⟩ := (HR.out.below hb).row secC_len (by decide) hlt
        have hc0 := hc 0 _ rfl
        have hc1 := hc 1 _ rfl
        have hc2 := hc 2 _ rfl
        have hc3 := hc 3 _ rfl
        have hc4 := hc 4 _ rfl
        have hc5 := hc 5 _ rfl
        simp only [Nat.add_zero] at hc0
        have hkd : k < ds.length := by omega
        have hpd : ds[k] = ps[k].d := by
          have h := HDD.out
          subst h
          simp
        have HT := hide (show tot (ds.drop k) = wt ps[k].d + tot (ds.drop (k + 1)) by rw [tot_drop hkd, hpd])
        have HX := hide hx1
        have HM := hide (hl _ (List.getElem_mem hlt))
        clear hc hb hx1 hpd hkd
        generalize ps[k] = p at *
        by_cases hs : x - wt p.d < 0
        · have HZ := hide (szJ_neg hs)
          go_wp2_with fail
          refine (szSection_any p x _ hx0 (by omega) HM.out.1 HM.out.2.1 HM.out.2.2).mono ?_
          rintro e w2 ⟨rfl, hb2⟩
          rw [HZ.out]
          have HB' := hide (HB.out.trans (hb2.mono HB.out.size))
          clear hb2
          go_wp2_with fail
          go_ret
          exact ⟨⟨_, rfl, .inl rfl⟩, HB'.out⟩
        · have HZ := hide (szJ_pos hs)
          go_wp2_with fail
          refine (szSection_any p x _ hx0 (by omega) HM.out.1 HM.out.2.1 HM.out.2.2).mono ?_
          rintro e w2 ⟨rfl, hb2⟩
          rw [HZ.out]
          have HB' := hide (HB.out.trans (hb2.mono HB.out.size))
          clear hb2
          go_wp2_with fail
          go_roundw
          case rel => exact ⟨k + 1, x - wt p.d, by omega, by go_num, rfl, by omega, (by have h1 := HT.out; have h2 := HX.out; omega), HB'.out⟩
          case measure => simp [intOf]; omega
      · have hE : 0 ≤ x ∧ x ≤ left ∧ x + ps.length + tot ds = left := by
          have e : k = ds.length := by omega
          subst e
          rw [List.drop_length] at hx1
          simp only [tot] at hx1
          omega
        have HE := hide hE
        clear hE hx1 hb
        go_wp2_with fail
        go_ret
        exact ⟨⟨_, rfl, .inr HE.out⟩, HB.out⟩
end Go.Proofs.YtmglgjchemecjaaGreat.CSections
