/- Contracts of the laws' helpers on Frame: the copy, the comparison of equal data, the marks. Written by a program. -/
import Derived.Test.YtckfffhionhnkaaBase
import Derived.Test.YtckfffhionhnkaaRows
import Derived.StillTailTactics
namespace Go.Proofs.Ytckfffhionhnkaa.CFrames
set_option maxRecDepth 200000
open Go.ChangeShapes Go.WideShapes Go.ChangeAt Go.RowKit Kit
theorem info : (Try.prog.info? 93).map (fun i => (i.zero, i.size, i.bytes)) = some (some (.agg #[.int .i64 0, .int .i64 0, .int .i64 0]), 3, 24) := by kernel_rfl
abbrev D := Int × Int × Int
def frameC (r : D) : List Value := [.int .i64 r.1, .int .i64 r.2.1, .int .i64 r.2.2]
theorem frameC_len (r : D) : (frameC r).length = 3 := rfl
theorem toFrame_any (z : D) (w : World) : Calls Try.prog 112 #[.agg #[.int .i64 z.1, .int .i64 z.2.1, .int .i64 z.2.2]] w (Ret (.agg #[.int .i64 z.1, .int .i64 z.2.1, .int .i64 z.2.2]) w) := by
  go_enter Try.func112, Try.ntmps112
  go_wp2
  exact bodyPost_ret (v := .agg #[.int .i64 z.1, .int .i64 z.2.1, .int .i64 z.2.2]) (by simp [results, Try.results112, go_sem]) rfl ⟨rfl, (by repeat (first | exact Below.refl _ _ | with_reducible assumption | (refine Below.drew ?_) | (refine Below.drewN ?_ _) | (refine Below.alloc ?_ (by simp; try omega) _) | (refine Below.setCell ?_ (by simp; try omega) _)))⟩
theorem toFrameS_any (A : Option Addr) (zs : List D) (c : Nat) (w : World) (hr : Rd w w.heap.size A (cellsOf frameC zs)) (hm : zs.length ≤ 1048576) :
    Calls Try.prog 26 #[.slice A zs.length c] w fun e w' => ∃ A' c', e = .returned (.slice A' zs.length c') ∧ w'.ownsRow w.heap.size 93 3 (.slice A' zs.length c') zs.length (cellsOf frameC zs) ∧ Below w.heap.size w w' := by
  obtain ⟨i0, hi, hz0, hz1, hz2⟩ := info_parts info
  go_enter Try.func26, Try.ntmps26
  go_wp2_with (at_make; refine wpList_make_full _ rfl _ _ _ rfl w.heap.size 93 i0 (.agg #[.int .i64 0, .int .i64 0, .int .i64 0]) 3 Try.underlying26 hi hz0 hz1 .i64 .i64 _ _ zs.length rfl rfl rfl rfl ?c1 ?c2 ?c3 ?_)
  case c1 => rw [hz2]; omega
  case c2 => unfold maxLen; omega
  case c3 => exact Nat.le_refl _
  intro w1 hown hg
  have hb1 : Below w.heap.size w w1 := (Below.refl _ _).grown hg (Nat.le_refl _) (by intro k h; cases h)
  clear hg
  have hown1 : ∃ xs, w1.ownsRow w.heap.size 93 3 (.slice (some ⟨w.heap.size, 0, none⟩) zs.length zs.length) zs.length xs := ⟨_, hown⟩
  clear hown
  go_wp2
  go_loopw [4] (fun i wr => ∃ k : Nat, k ≤ zs.length ∧ i = .int .i64 k ∧ (∃ xs, wr.ownsRow w.heap.size 93 3 (.slice (some ⟨w.heap.size, 0, none⟩) zs.length zs.length) zs.length (cellsOf frameC (zs.take k) ++ xs)) ∧ Below w.heap.size w wr) (fun i _ => zs.length - (intOf i).toNat)
  case atStart => exact ⟨0, Nat.zero_le _, rfl, by simpa [cellsOf] using hown1, hb1⟩
  case round =>
    obtain ⟨k, hk, rfl, ⟨xs, ho⟩, hb⟩ := hrel
    clear hown1 hb1
    by_cases hlt : k < zs.length
    · obtain ⟨b, off, rfl, hbg, hc⟩ := (hr.below hb).row frameC_len (by decide) hlt
      have hc0 := hc 0 _ rfl
      have hc1 := hc 1 _ rfl
      have hc2 := hc 2 _ rfl
      simp only [Nat.add_zero] at hc0
      have hl := ho.1
      have HO := hide ho
      have HB := hide hb
      clear hr ho hb hc
      go_wp2_with fail
      refine (toFrame_any _ _).mono ?_
      rintro e w2 ⟨rfl, hb2⟩
      have ho := own_call hb2 HO.out
      have hb' := HB.out.trans (hb2.mono HB.out.size)
      obtain ⟨⟨old0, hk0⟩, hfz0⟩ := own_old ho (j := k * 3) (by omega)
      obtain ⟨⟨old1, hk1⟩, hfz1⟩ := own_old ho (j := k * 3 + 1) (by omega)
      obtain ⟨⟨old2, hk2⟩, hfz2⟩ := own_old ho (j := k * 3 + 2) (by omega)
      have hpl : (cellsOf frameC (zs.take k)).length = k * 3 := by rw [cellsOf_len frameC_len, List.length_take]; omega
      have ho1 := own_put ho hpl (by omega) (.int .i64 zs[k].1)
      have ho2 := own_put ho1 (j := k * 3 + 1) (by simp only [List.length_append, hpl]; rfl) (by omega) (.int .i64 zs[k].2.1)
      have ho3 := own_put ho2 (j := k * 3 + 2) (by simp only [List.length_append, hpl]; rfl) (by omega) (.int .i64 zs[k].2.2)
      have HO' := hide ho3
      have HB' := hide hb'
      have HT := hide (take_succ hlt)
      generalize zs[k] = z at *
      clear ho ho1 ho2 ho3 hpl hb' HO HB hb2
      go_wp2_with fail
      refine ⟨⟨k + 1, by omega, by go_num, ⟨xs.tail.tail.tail, ?_⟩, ?_⟩, by simp [intOf]; omega⟩
      · rw [HT.out]
        simpa [cellsOf, frameC] using HO'.out
      · exact (Below.setCell (Below.setCell (Below.setCell HB'.out (Nat.le_refl _) _) (Nat.le_refl _) _) (Nat.le_refl _) _)
    · have e : k = zs.length := by omega
      subst e
      have hxs : xs = [] := by
        have := ho.1
        rw [List.take_length, List.length_append, cellsOf_len frameC_len] at this
        exact List.eq_nil_of_length_eq_zero (by omega)
      subst hxs
      rw [List.take_length, List.append_nil] at ho
      clear hr
      go_wp2
      go_ret
      exact ⟨_, _, rfl, ho, hb⟩
theorem eqFrame_same (x : D) (w : World) : Calls Try.prog 113 #[.agg #[.int .i64 x.1, .int .i64 x.2.1, .int .i64 x.2.2], .agg #[.int .i64 x.1, .int .i64 x.2.1, .int .i64 x.2.2]] w (Ret (.bool true) w) := by
  go_enter Try.func113, Try.ntmps113
  go_wp2
  go_ret
  exact ⟨rfl, (by repeat (first | exact Below.refl _ _ | with_reducible assumption | (refine Below.drew ?_) | (refine Below.drewN ?_ _) | (refine Below.alloc ?_ (by simp; try omega) _) | (refine Below.setCell ?_ (by simp; try omega) _)))⟩
set_option maxRecDepth 20000 in
theorem eqFrameS_same (A A' : Option Addr) (xs : List D) (c c' : Nat) (w : World) (hr : Rd w w.heap.size A (cellsOf frameC xs)) (hr' : Rd w w.heap.size A' (cellsOf frameC xs)) (hm : xs.length ≤ maxLen) :
    Calls Try.prog 30 #[.slice A xs.length c, .slice A' xs.length c'] w (Ret (.bool true) w) := by
  unfold maxLen at hm
  have h0 : (((xs.length : Nat) : Int) != (xs.length : Nat)) = false := by simp
  go_enter Try.func30, Try.ntmps30
  go_wp2
  clear h0
  go_loopw [5] (fun i wr => ∃ k : Nat, k ≤ xs.length ∧ i = .int .i64 k ∧ Below w.heap.size w wr) (fun i _ => xs.length - (intOf i).toNat)
  case atStart => exact ⟨0, Nat.zero_le _, rfl, Below.refl _ _⟩
  case round =>
    obtain ⟨k, hk, rfl, hb⟩ := hrel
    have HB := hide hb
    by_cases hlt : k < xs.length
    · obtain ⟨b, off, rfl, _, hc⟩ := (hr.below hb).row frameC_len (by decide) hlt
      obtain ⟨b', off', rfl, _, hd⟩ := (hr'.below hb).row frameC_len (by decide) hlt
      have hc0 := hc 0 _ rfl
      have hd0 := hd 0 _ rfl
      have hc1 := hc 1 _ rfl
      have hd1 := hd 1 _ rfl
      have hc2 := hc 2 _ rfl
      have hd2 := hd 2 _ rfl
      simp only [Nat.add_zero] at hc0 hd0
      clear hr hr' hc hd hb
      generalize xs[k] = x at *
      go_wp2_with fail
      go_still_tail 8, (by kernel_rfl)
      change wpList _ _ _ _ _ wr.drew
      clear hc0 hd0 hc1 hd1 hc2 hd2
      go_wp2_with fail
      refine (eqFrame_same _ _).mono ?_
      rintro e w2 ⟨rfl, hb2⟩
      have HB' := hide (HB.out.trans ((of_drew hb2).mono HB.out.size))
      clear hb2
      go_wp2_with fail
      go_roundw
      case rel => exact ⟨k + 1, by omega, by go_num, HB'.out⟩
      case measure => simp [intOf]; omega
    · clear hr hr'
      go_wp2_with fail
      go_ret
      exact ⟨rfl, HB.out⟩

def marks (k0 : Int) (m : Nat) : List D := (List.range m).map fun (i : Nat) => (k0 + 3 * (i : Int), k0 + 3 * (i : Int) + 1, k0 + 3 * (i : Int) + 1 + 1)
theorem marks_len (k0 : Int) (m : Nat) : (marks k0 m).length = m := by simp [marks]
theorem marks_at (k0 : Int) (m i : Nat) (h : i < m) : (marks k0 m)[i]'(by rw [marks_len]; exact h) = (k0 + 3 * (i : Int), k0 + 3 * (i : Int) + 1, k0 + 3 * (i : Int) + 1 + 1) := by simp [marks]
theorem marks_succ (k0 : Int) (i : Nat) : marks k0 (i + 1) = marks k0 i ++ [(k0 + 3 * (i : Int), k0 + 3 * (i : Int) + 1, k0 + 3 * (i : Int) + 1 + 1)] := by simp [marks, List.range_succ]
theorem mark_any (base : Nat) (A : Option Addr) (c m : Nat) (cs : List Value) (k0 : Int) (w : World) (h0 : 0 ≤ k0) (hk0 : k0 ≤ 4294967296) (hm : m ≤ 4294967296)
    (hown : w.ownsRow base 93 3 (.slice A m c) m cs) :
    Calls Try.prog 31 #[.slice A m c, .int .i64 k0] w fun e w' => e = .returned (.int .i64 (k0 + 3 * m)) ∧ w'.ownsRow base 93 3 (.slice A m c) m (cellsOf frameC (marks k0 m)) ∧ w.grownBy w' (Value.slice A m c).ownBlock := by
  go_enter Try.func31, Try.ntmps31
  go_wp2
  have hg0 := World.grownBy.refl w (Value.slice A m c).ownBlock
  go_loopw [1, 5] (fun k i wr => ∃ j : Nat, j ≤ m ∧ i = .int .i64 j ∧ k = .int .i64 (k0 + 3 * j) ∧ (∃ xs, wr.ownsRow base 93 3 (.slice A m c) m (cellsOf frameC (marks k0 j) ++ xs)) ∧ w.grownBy wr (Value.slice A m c).ownBlock) (fun _ i _ => m - (intOf i).toNat)
  case atStart => exact ⟨0, Nat.zero_le _, rfl, by simp, ⟨cs, by simpa [marks, cellsOf] using hown⟩, hg0⟩
  case round =>
    obtain ⟨j, hj, rfl, rfl, ⟨xs, ho⟩, hg⟩ := hrel
    clear hown hg0
    by_cases hlt : j < m
    · have hform : ∃ g, A = some ⟨g, 0, none⟩ := by
        rcases ho.2 with ⟨hv, h0⟩ | ⟨g, cap, cur, hv, _⟩
        · omega
        · injection hv with hA
          exact ⟨g, hA⟩
      obtain ⟨g, rfl⟩ := hform
      obtain ⟨⟨old0, hk0⟩, hfz0⟩ := own_old ho (j := j * 3) (by omega)
      obtain ⟨⟨old1, hk1⟩, hfz1⟩ := own_old ho (j := j * 3 + 1) (by omega)
      obtain ⟨⟨old2, hk2⟩, hfz2⟩ := own_old ho (j := j * 3 + 2) (by omega)
      have hpl : (cellsOf frameC (marks k0 j)).length = j * 3 := by rw [cellsOf_len frameC_len, marks_len]
      have ho1 := own_put ho hpl (by omega) (.int .i64 (k0 + 3 * (j : Int)))
      have hg1 := grown_put (u := .int .i64 (k0 + 3 * (j : Int))) (j := j * 3) hg
      have ho2 := own_put ho1 (j := j * 3 + 1) (by simp only [List.length_append, hpl]; rfl) (by omega) (.int .i64 (k0 + 3 * (j : Int) + 1))
      have hg2 := grown_put (u := .int .i64 (k0 + 3 * (j : Int) + 1)) (j := j * 3 + 1) hg1
      have ho3 := own_put ho2 (j := j * 3 + 2) (by simp only [List.length_append, hpl]; rfl) (by omega) (.int .i64 (k0 + 3 * (j : Int) + 1 + 1))
      have hg3 := grown_put (u := .int .i64 (k0 + 3 * (j : Int) + 1 + 1)) (j := j * 3 + 2) hg2
      have HH := hide (And.intro ho3 hg3)
      have E1 := hide (show k0 + 3 * (j : Int) + 1 + 1 + 1 = k0 + 3 * ((j + 1 : Nat) : Int) by omega)
      clear ho1 hg1 ho2 hg2 ho3 hg3 ho hg hpl
      go_wp2
      refine ⟨⟨j + 1, by omega, by go_num, by rw [E1.out], ⟨xs.tail.tail.tail, ?_⟩, HH.out.2⟩, by simp [intOf]; omega⟩
      rw [marks_succ]
      simpa [cellsOf, frameC] using HH.out.1
    · have e : j = m := by omega
      subst e
      have hxs : xs = [] := by
        have := ho.1
        rw [List.length_append, cellsOf_len frameC_len, marks_len] at this
        exact List.eq_nil_of_length_eq_zero (by omega)
      subst hxs
      rw [List.append_nil] at ho
      go_wp2
      go_ret
      exact ⟨rfl, ho, hg⟩
end Go.Proofs.Ytckfffhionhnkaa.CFrames
