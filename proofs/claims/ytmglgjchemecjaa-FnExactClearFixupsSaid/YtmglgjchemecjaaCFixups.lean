/- Contracts of the laws' helpers on Fixup: the copy, the comparison of equal data, the marks. Written by a program. -/
import Derived.Test.YtmglgjchemecjaaBase
import Derived.Test.YtmglgjchemecjaaRows
import Derived.StillTailTactics
namespace Go.Proofs.Ytmglgjchemecjaa.CFixups
set_option maxRecDepth 200000
open Go.ChangeShapes Go.WideShapes Go.ChangeAt Go.RowKit Kit
theorem info : (Try.prog.info? 77).map (fun i => (i.zero, i.size, i.bytes)) = some (some (.agg #[.int .i64 0, .int .i64 0, .int .i64 0, .int .i64 0]), 4, 32) := by kernel_rfl
abbrev D := Int × Int × Int × Int
def fixupC (r : D) : List Value := [.int .i64 r.1, .int .i64 r.2.1, .int .i64 r.2.2.1, .int .i64 r.2.2.2]
theorem fixupC_len (r : D) : (fixupC r).length = 4 := rfl
theorem toFixup_any (z : D) (w : World) : Calls Try.prog 188 #[.agg #[.int .i64 z.1, .int .i64 z.2.1, .int .i64 z.2.2.1, .int .i64 z.2.2.2]] w (Ret (.agg #[.int .i64 z.1, .int .i64 z.2.1, .int .i64 z.2.2.1, .int .i64 z.2.2.2]) w) := by
  go_enter Try.func188, Try.ntmps188
  go_wp2
  exact bodyPost_ret (v := .agg #[.int .i64 z.1, .int .i64 z.2.1, .int .i64 z.2.2.1, .int .i64 z.2.2.2]) (by simp [results, Try.results188, go_sem]) rfl ⟨rfl, (by repeat (first | exact Below.refl _ _ | with_reducible assumption | (refine Below.drew ?_) | (refine Below.drewN ?_ _) | (refine Below.alloc ?_ (by simp; try omega) _) | (refine Below.setCell ?_ (by simp; try omega) _)))⟩
theorem toFixupS_any (A : Option Addr) (zs : List D) (c : Nat) (w : World) (hr : Rd w w.heap.size A (cellsOf fixupC zs)) (hm : zs.length ≤ 1048576) :
    Calls Try.prog 169 #[.slice A zs.length c] w fun e w' => ∃ A' c', e = .returned (.slice A' zs.length c') ∧ w'.ownsRow w.heap.size 77 4 (.slice A' zs.length c') zs.length (cellsOf fixupC zs) ∧ Below w.heap.size w w' := by
  obtain ⟨i0, hi, hz0, hz1, hz2⟩ := info_parts info
  go_enter Try.func169, Try.ntmps169
  go_wp2_with (at_make; refine wpList_make_full _ rfl _ _ _ rfl w.heap.size 77 i0 (.agg #[.int .i64 0, .int .i64 0, .int .i64 0, .int .i64 0]) 4 Try.underlying71 hi hz0 hz1 .i64 .i64 _ _ zs.length rfl rfl rfl rfl ?c1 ?c2 ?c3 ?_)
  case c1 => rw [hz2]; omega
  case c2 => unfold maxLen; omega
  case c3 => exact Nat.le_refl _
  intro w1 hown hg
  have hb1 : Below w.heap.size w w1 := (Below.refl _ _).grown hg (Nat.le_refl _) (by intro k h; cases h)
  clear hg
  have hown1 : ∃ xs, w1.ownsRow w.heap.size 77 4 (.slice (some ⟨w.heap.size, 0, none⟩) zs.length zs.length) zs.length xs := ⟨_, hown⟩
  clear hown
  go_wp2
  go_loopw [4] (fun i wr => ∃ k : Nat, k ≤ zs.length ∧ i = .int .i64 k ∧ (∃ xs, wr.ownsRow w.heap.size 77 4 (.slice (some ⟨w.heap.size, 0, none⟩) zs.length zs.length) zs.length (cellsOf fixupC (zs.take k) ++ xs)) ∧ Below w.heap.size w wr) (fun i _ => zs.length - (intOf i).toNat)
  case atStart => exact ⟨0, Nat.zero_le _, rfl, by simpa [cellsOf] using hown1, hb1⟩
  case round =>
    obtain ⟨k, hk, rfl, ⟨xs, ho⟩, hb⟩ := hrel
    clear hown1 hb1
    by_cases hlt : k < zs.length
    · obtain ⟨b, off, rfl, hbg, hc⟩ := (hr.below hb).row fixupC_len (by decide) hlt
      have hc0 := hc 0 _ rfl
      have hc1 := hc 1 _ rfl
      have hc2 := hc 2 _ rfl
      have hc3 := hc 3 _ rfl
      simp only [Nat.add_zero] at hc0
      have hl := ho.1
      have HO := hide ho
      have HB := hide hb
      clear hr ho hb hc
      go_wp2_with fail
      refine (toFixup_any _ _).mono ?_
      rintro e w2 ⟨rfl, hb2⟩
      have ho := own_call hb2 HO.out
      have hb' := HB.out.trans (hb2.mono HB.out.size)
      obtain ⟨⟨old0, hk0⟩, hfz0⟩ := own_old ho (j := k * 4) (by omega)
      obtain ⟨⟨old1, hk1⟩, hfz1⟩ := own_old ho (j := k * 4 + 1) (by omega)
      obtain ⟨⟨old2, hk2⟩, hfz2⟩ := own_old ho (j := k * 4 + 2) (by omega)
      obtain ⟨⟨old3, hk3⟩, hfz3⟩ := own_old ho (j := k * 4 + 3) (by omega)
      have hpl : (cellsOf fixupC (zs.take k)).length = k * 4 := by rw [cellsOf_len fixupC_len, List.length_take]; omega
      have ho1 := own_put ho hpl (by omega) (.int .i64 zs[k].1)
      have ho2 := own_put ho1 (j := k * 4 + 1) (by simp only [List.length_append, hpl]; rfl) (by omega) (.int .i64 zs[k].2.1)
      have ho3 := own_put ho2 (j := k * 4 + 2) (by simp only [List.length_append, hpl]; rfl) (by omega) (.int .i64 zs[k].2.2.1)
      have ho4 := own_put ho3 (j := k * 4 + 3) (by simp only [List.length_append, hpl]; rfl) (by omega) (.int .i64 zs[k].2.2.2)
      have HO' := hide ho4
      have HB' := hide hb'
      have HT := hide (take_succ hlt)
      generalize zs[k] = z at *
      clear ho ho1 ho2 ho3 ho4 hpl hb' HO HB hb2
      go_wp2_with fail
      refine ⟨⟨k + 1, by omega, by go_num, ⟨xs.tail.tail.tail.tail, ?_⟩, ?_⟩, by simp [intOf]; omega⟩
      · rw [HT.out]
        simpa [cellsOf, fixupC] using HO'.out
      · exact (Below.setCell (Below.setCell (Below.setCell (Below.setCell HB'.out (Nat.le_refl _) _) (Nat.le_refl _) _) (Nat.le_refl _) _) (Nat.le_refl _) _)
    · have e : k = zs.length := by omega
      subst e
      have hxs : xs = [] := by
        have := ho.1
        rw [List.take_length, List.length_append, cellsOf_len fixupC_len] at this
        exact List.eq_nil_of_length_eq_zero (by omega)
      subst hxs
      rw [List.take_length, List.append_nil] at ho
      clear hr
      go_wp2
      go_ret
      exact ⟨_, _, rfl, ho, hb⟩
theorem eqFixup_same (x : D) (w : World) : Calls Try.prog 189 #[.agg #[.int .i64 x.1, .int .i64 x.2.1, .int .i64 x.2.2.1, .int .i64 x.2.2.2], .agg #[.int .i64 x.1, .int .i64 x.2.1, .int .i64 x.2.2.1, .int .i64 x.2.2.2]] w (Ret (.bool true) w) := by
  go_enter Try.func189, Try.ntmps189
  go_wp2
  go_ret
  exact ⟨rfl, (by repeat (first | exact Below.refl _ _ | with_reducible assumption | (refine Below.drew ?_) | (refine Below.drewN ?_ _) | (refine Below.alloc ?_ (by simp; try omega) _) | (refine Below.setCell ?_ (by simp; try omega) _)))⟩
set_option maxRecDepth 20000 in
theorem eqFixupS_same (A A' : Option Addr) (xs : List D) (c c' : Nat) (w : World) (hr : Rd w w.heap.size A (cellsOf fixupC xs)) (hr' : Rd w w.heap.size A' (cellsOf fixupC xs)) (hm : xs.length ≤ maxLen) :
    Calls Try.prog 171 #[.slice A xs.length c, .slice A' xs.length c'] w (Ret (.bool true) w) := by
  unfold maxLen at hm
  have h0 : (((xs.length : Nat) : Int) != (xs.length : Nat)) = false := by simp
  go_enter Try.func171, Try.ntmps171
  go_wp2
  clear h0
  go_loopw [5] (fun i wr => ∃ k : Nat, k ≤ xs.length ∧ i = .int .i64 k ∧ Below w.heap.size w wr) (fun i _ => xs.length - (intOf i).toNat)
  case atStart => exact ⟨0, Nat.zero_le _, rfl, Below.refl _ _⟩
  case round =>
    obtain ⟨k, hk, rfl, hb⟩ := hrel
    have HB := hide hb
    by_cases hlt : k < xs.length
    · obtain ⟨b, off, rfl, _, hc⟩ := (hr.below hb).row fixupC_len (by decide) hlt
      obtain ⟨b', off', rfl, _, hd⟩ := (hr'.below hb).row fixupC_len (by decide) hlt
      have hc0 := hc 0 _ rfl
      have hd0 := hd 0 _ rfl
      have hc1 := hc 1 _ rfl
      have hd1 := hd 1 _ rfl
      have hc2 := hc 2 _ rfl
      have hd2 := hd 2 _ rfl
      have hc3 := hc 3 _ rfl
      have hd3 := hd 3 _ rfl
      simp only [Nat.add_zero] at hc0 hd0
      clear hr hr' hc hd hb
      generalize xs[k] = x at *
      go_wp2_with fail
      go_still_tail 8, (by kernel_rfl)
      change wpList _ _ _ _ _ wr.drew
      clear hc0 hd0 hc1 hd1 hc2 hd2 hc3 hd3
      go_wp2_with fail
      refine (eqFixup_same _ _).mono ?_
      rintro e w2 ⟨rfl, hb2⟩
      have HB' := hide (HB.out.trans ((of_drew hb2).mono HB.out.size))
      clear hb2
      go_wp2_with fail
      go_roundw
      case rel => exact ⟨k + 1, by omega, by go_num, HB'.out⟩
      case measure => simp [intOf]; omega
    · clear hr hr'
      go_wp2_with fail
      go_ret
      exact ⟨rfl, HB.out⟩

def marks (k0 : Int) (m : Nat) : List D := (List.range m).map fun (i : Nat) => (k0 + 4 * (i : Int), k0 + 4 * (i : Int) + 1, k0 + 4 * (i : Int) + 1 + 1, k0 + 4 * (i : Int) + 1 + 1 + 1)
theorem marks_len (k0 : Int) (m : Nat) : (marks k0 m).length = m := by simp [marks]
theorem marks_at (k0 : Int) (m i : Nat) (h : i < m) : (marks k0 m)[i]'(by rw [marks_len]; exact h) = (k0 + 4 * (i : Int), k0 + 4 * (i : Int) + 1, k0 + 4 * (i : Int) + 1 + 1, k0 + 4 * (i : Int) + 1 + 1 + 1) := by simp [marks]
theorem marks_succ (k0 : Int) (i : Nat) : marks k0 (i + 1) = marks k0 i ++ [(k0 + 4 * (i : Int), k0 + 4 * (i : Int) + 1, k0 + 4 * (i : Int) + 1 + 1, k0 + 4 * (i : Int) + 1 + 1 + 1)] := by simp [marks, List.range_succ]
theorem mark_any (base : Nat) (A : Option Addr) (c m : Nat) (cs : List Value) (k0 : Int) (w : World) (h0 : 0 ≤ k0) (hk0 : k0 ≤ 4294967296) (hm : m ≤ 4294967296)
    (hown : w.ownsRow base 77 4 (.slice A m c) m cs) :
    Calls Try.prog 125 #[.slice A m c, .int .i64 k0] w fun e w' => e = .returned (.int .i64 (k0 + 4 * m)) ∧ w'.ownsRow base 77 4 (.slice A m c) m (cellsOf fixupC (marks k0 m)) ∧ w.grownBy w' (Value.slice A m c).ownBlock := by
  go_enter Try.func125, Try.ntmps125
  go_wp2
  have hg0 := World.grownBy.refl w (Value.slice A m c).ownBlock
  go_loopw [1, 5] (fun k i wr => ∃ j : Nat, j ≤ m ∧ i = .int .i64 j ∧ k = .int .i64 (k0 + 4 * j) ∧ (∃ xs, wr.ownsRow base 77 4 (.slice A m c) m (cellsOf fixupC (marks k0 j) ++ xs)) ∧ w.grownBy wr (Value.slice A m c).ownBlock) (fun _ i _ => m - (intOf i).toNat)
  case atStart => exact ⟨0, Nat.zero_le _, rfl, by simp, ⟨cs, by simpa [marks, cellsOf] using hown⟩, hg0⟩
  case round =>
    obtain ⟨j, hj, rfl, rfl, ⟨xs, ho⟩, hg⟩ := hrel
    clear hown hg0
    by_cases hlt : j < m
    · have hform : ∃ g, A = some ⟨g, 0, none⟩ := by
        rcases ho.2 with ⟨hv, h0⟩ | ⟨g, cap, cur, hv, _⟩
        · omega
        · injection hv with hA
          exact ⟨g, hA⟩
      obtain ⟨g, rfl⟩ := hform
      obtain ⟨⟨old0, hk0⟩, hfz0⟩ := own_old ho (j := j * 4) (by omega)
      obtain ⟨⟨old1, hk1⟩, hfz1⟩ := own_old ho (j := j * 4 + 1) (by omega)
      obtain ⟨⟨old2, hk2⟩, hfz2⟩ := own_old ho (j := j * 4 + 2) (by omega)
      obtain ⟨⟨old3, hk3⟩, hfz3⟩ := own_old ho (j := j * 4 + 3) (by omega)
      have hpl : (cellsOf fixupC (marks k0 j)).length = j * 4 := by rw [cellsOf_len fixupC_len, marks_len]
      have ho1 := own_put ho hpl (by omega) (.int .i64 (k0 + 4 * (j : Int)))
      have hg1 := grown_put (u := .int .i64 (k0 + 4 * (j : Int))) (j := j * 4) hg
      have ho2 := own_put ho1 (j := j * 4 + 1) (by simp only [List.length_append, hpl]; rfl) (by omega) (.int .i64 (k0 + 4 * (j : Int) + 1))
      have hg2 := grown_put (u := .int .i64 (k0 + 4 * (j : Int) + 1)) (j := j * 4 + 1) hg1
      have ho3 := own_put ho2 (j := j * 4 + 2) (by simp only [List.length_append, hpl]; rfl) (by omega) (.int .i64 (k0 + 4 * (j : Int) + 1 + 1))
      have hg3 := grown_put (u := .int .i64 (k0 + 4 * (j : Int) + 1 + 1)) (j := j * 4 + 2) hg2
      have ho4 := own_put ho3 (j := j * 4 + 3) (by simp only [List.length_append, hpl]; rfl) (by omega) (.int .i64 (k0 + 4 * (j : Int) + 1 + 1 + 1))
      have hg4 := grown_put (u := .int .i64 (k0 + 4 * (j : Int) + 1 + 1 + 1)) (j := j * 4 + 3) hg3
      have HH := hide (And.intro ho4 hg4)
      have E1 := hide (show k0 + 4 * (j : Int) + 1 + 1 + 1 + 1 = k0 + 4 * ((j + 1 : Nat) : Int) by omega)
      clear ho1 hg1 ho2 hg2 ho3 hg3 ho4 hg4 ho hg hpl
      go_wp2
      refine ⟨⟨j + 1, by omega, by go_num, by rw [E1.out], ⟨xs.tail.tail.tail.tail, ?_⟩, HH.out.2⟩, by simp [intOf]; omega⟩
      rw [marks_succ]
      simpa [cellsOf, fixupC] using HH.out.1
    · have e : j = m := by omega
      subst e
      have hxs : xs = [] := by
        have := ho.1
        rw [List.length_append, cellsOf_len fixupC_len, marks_len] at this
        exact List.eq_nil_of_length_eq_zero (by omega)
      subst hxs
      rw [List.append_nil] at ho
      go_wp2
      go_ret
      exact ⟨rfl, ho, hg⟩
theorem held_any (B : Nat) (A : Option Addr) (c m : Nat) (k0 : Int) (w : World) (h0 : 0 ≤ k0) (hk0 : k0 ≤ 4294967296) (hm : m ≤ 4294967296) (hr : Rd w B A (cellsOf fixupC (marks k0 m))) :
    Calls Try.prog 127 #[.slice A m c, .int .i64 k0] w (Pure (.int .i64 (k0 + 4 * m)) w) := by
  go_enter Try.func127, Try.ntmps127
  go_wp2
  go_loop [1, 5] (fun k i => ∃ j : Nat, j ≤ m ∧ i = .int .i64 j ∧ k = .int .i64 (k0 + 4 * j)) (fun _ i => m - (intOf i).toNat)
  case atStart => exact ⟨0, Nat.zero_le _, rfl, by simp⟩
  case round =>
    obtain ⟨j, hj, rfl, rfl⟩ := hrel
    by_cases hlt : j < m
    · obtain ⟨b, off, rfl, _, hc⟩ := hr.row fixupC_len (by decide) (k := j) (by rw [marks_len]; exact hlt)
      rw [marks_at _ _ _ hlt] at hc
      have hc0 := hc 0 _ rfl
      have hc1 := hc 1 _ rfl
      have hc2 := hc 2 _ rfl
      have hc3 := hc 3 _ rfl
      simp only [Nat.add_zero] at hc0
      have E1 := hide (show k0 + 4 * (j : Int) + 1 + 1 + 1 + 1 = k0 + 4 * ((j + 1 : Nat) : Int) by omega)
      clear hr hc
      go_wp2
      go_round
      case rel => exact ⟨j + 1, by omega, by go_num, by rw [E1.out]⟩
      case measure => simp [intOf]; omega
    · have e : j = m := by omega
      subst e
      clear hr
      go_wp2
      go_ret
      exact ⟨rfl, rfl⟩
end Go.Proofs.Ytmglgjchemecjaa.CFixups
