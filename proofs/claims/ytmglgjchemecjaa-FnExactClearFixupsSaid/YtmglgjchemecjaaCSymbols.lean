/- Contracts of the laws' helpers on Symbol: the copy, the comparison of equal data, the marks. Written by a program. -/
import Derived.Test.YtmglgjchemecjaaBase
import Derived.Test.YtmglgjchemecjaaRows
import Derived.StillTailTactics
namespace Go.Proofs.Ytmglgjchemecjaa.CSymbols
set_option maxRecDepth 200000
open Go.ChangeShapes Go.WideShapes Go.ChangeAt Go.RowKit Kit
theorem info : (Try.prog.info? 69).map (fun i => (i.zero, i.size, i.bytes)) = some (some (.agg #[.string ByteArray.empty, .int .i64 0, .int .i64 0, .int .i64 0]), 4, 40) := by kernel_rfl
abbrev D := ByteArray × Int × Int × Int
def symbolC (r : D) : List Value := [.string r.1, .int .i64 r.2.1, .int .i64 r.2.2.1, .int .i64 r.2.2.2]
theorem symbolC_len (r : D) : (symbolC r).length = 4 := rfl
theorem toSymbol_any (z : D) (w : World) : Calls Try.prog 120 #[.agg #[.string z.1, .int .i64 z.2.1, .int .i64 z.2.2.1, .int .i64 z.2.2.2]] w (Ret (.agg #[.string z.1, .int .i64 z.2.1, .int .i64 z.2.2.1, .int .i64 z.2.2.2]) w) := by
  go_enter Try.func120, Try.ntmps120
  go_wp2
  exact bodyPost_ret (v := .agg #[.string z.1, .int .i64 z.2.1, .int .i64 z.2.2.1, .int .i64 z.2.2.2]) (by simp [results, Try.results120, go_sem]) rfl ⟨rfl, (by repeat (first | exact Below.refl _ _ | with_reducible assumption | (refine Below.drew ?_) | (refine Below.drewN ?_ _) | (refine Below.alloc ?_ (by simp; try omega) _) | (refine Below.setCell ?_ (by simp; try omega) _)))⟩
theorem toSymbolS_any (A : Option Addr) (zs : List D) (c : Nat) (w : World) (hr : Rd w w.heap.size A (cellsOf symbolC zs)) (hm : zs.length ≤ 1048576) :
    Calls Try.prog 56 #[.slice A zs.length c] w fun e w' => ∃ A' c', e = .returned (.slice A' zs.length c') ∧ w'.ownsRow w.heap.size 69 4 (.slice A' zs.length c') zs.length (cellsOf symbolC zs) ∧ Below w.heap.size w w' := by
  obtain ⟨i0, hi, hz0, hz1, hz2⟩ := info_parts info
  go_enter Try.func56, Try.ntmps56
  go_wp2_with (at_make; refine wpList_make_full _ rfl _ _ _ rfl w.heap.size 69 i0 (.agg #[.string ByteArray.empty, .int .i64 0, .int .i64 0, .int .i64 0]) 4 Try.underlying24 hi hz0 hz1 .i64 .i64 _ _ zs.length rfl rfl rfl rfl ?c1 ?c2 ?c3 ?_)
  case c1 => rw [hz2]; omega
  case c2 => unfold maxLen; omega
  case c3 => exact Nat.le_refl _
  intro w1 hown hg
  have hb1 : Below w.heap.size w w1 := (Below.refl _ _).grown hg (Nat.le_refl _) (by intro k h; cases h)
  clear hg
  have hown1 : ∃ xs, w1.ownsRow w.heap.size 69 4 (.slice (some ⟨w.heap.size, 0, none⟩) zs.length zs.length) zs.length xs := ⟨_, hown⟩
  clear hown
  go_wp2
  go_loopw [4] (fun i wr => ∃ k : Nat, k ≤ zs.length ∧ i = .int .i64 k ∧ (∃ xs, wr.ownsRow w.heap.size 69 4 (.slice (some ⟨w.heap.size, 0, none⟩) zs.length zs.length) zs.length (cellsOf symbolC (zs.take k) ++ xs)) ∧ Below w.heap.size w wr) (fun i _ => zs.length - (intOf i).toNat)
  case atStart => exact ⟨0, Nat.zero_le _, rfl, by simpa [cellsOf] using hown1, hb1⟩
  case round =>
    obtain ⟨k, hk, rfl, ⟨xs, ho⟩, hb⟩ := hrel
    clear hown1 hb1
    by_cases hlt : k < zs.length
    · obtain ⟨b, off, rfl, hbg, hc⟩ := (hr.below hb).row symbolC_len (by decide) hlt
      have hc0 := hc 0 _ rfl
      have hc1 := hc 1 _ rfl
      have hc2 := hc 2 _ rfl
      have hc3 := hc 3 _ rfl
      simp only [Nat.add_zero] at hc0
      have hl := ho.1
      have HO := hide ho
      have HB := hide hb
      clear hr ho hb hc
      go_wp2_with fail
      refine (toSymbol_any _ _).mono ?_
      rintro e w2 ⟨rfl, hb2⟩
      have ho := own_call hb2 HO.out
      have hb' := HB.out.trans (hb2.mono HB.out.size)
      obtain ⟨⟨old0, hk0⟩, hfz0⟩ := own_old ho (j := k * 4) (by omega)
      obtain ⟨⟨old1, hk1⟩, hfz1⟩ := own_old ho (j := k * 4 + 1) (by omega)
      obtain ⟨⟨old2, hk2⟩, hfz2⟩ := own_old ho (j := k * 4 + 2) (by omega)
      obtain ⟨⟨old3, hk3⟩, hfz3⟩ := own_old ho (j := k * 4 + 3) (by omega)
      have hpl : (cellsOf symbolC (zs.take k)).length = k * 4 := by rw [cellsOf_len symbolC_len, List.length_take]; omega
      have ho1 := own_put ho hpl (by omega) (.string zs[k].1)
      have ho2 := own_put ho1 (j := k * 4 + 1) (by simp only [List.length_append, hpl]; rfl) (by omega) (.int .i64 zs[k].2.1)
      have ho3 := own_put ho2 (j := k * 4 + 2) (by simp only [List.length_append, hpl]; rfl) (by omega) (.int .i64 zs[k].2.2.1)
      have ho4 := own_put ho3 (j := k * 4 + 3) (by simp only [List.length_append, hpl]; rfl) (by omega) (.int .i64 zs[k].2.2.2)
      have HO' := hide ho4
      have HB' := hide hb'
      have HT := hide (take_succ hlt)
      generalize zs[k] = z at *
      clear ho ho1 ho2 ho3 ho4 hpl hb' HO HB hb2
      go_wp2_with fail
      refine ⟨⟨k + 1, by omega, by go_num, ⟨xs.tail.tail.tail.tail, ?_⟩, ?_⟩, by simp [intOf]; omega⟩
      · rw [HT.out]
        simpa [cellsOf, symbolC] using HO'.out
      · exact (Below.setCell (Below.setCell (Below.setCell (Below.setCell HB'.out (Nat.le_refl _) _) (Nat.le_refl _) _) (Nat.le_refl _) _) (Nat.le_refl _) _)
    · have e : k = zs.length := by omega
      subst e
      have hxs : xs = [] := by
        have := ho.1
        rw [List.take_length, List.length_append, cellsOf_len symbolC_len] at this
        exact List.eq_nil_of_length_eq_zero (by omega)
      subst hxs
      rw [List.take_length, List.append_nil] at ho
      clear hr
      go_wp2
      go_ret
      exact ⟨_, _, rfl, ho, hb⟩
theorem eqSymbol_same (x : D) (w : World) : Calls Try.prog 122 #[.agg #[.string x.1, .int .i64 x.2.1, .int .i64 x.2.2.1, .int .i64 x.2.2.2], .agg #[.string x.1, .int .i64 x.2.1, .int .i64 x.2.2.1, .int .i64 x.2.2.2]] w (Ret (.bool true) w) := by
  go_enter Try.func122, Try.ntmps122
  go_wp2
  go_ret
  exact ⟨rfl, (by repeat (first | exact Below.refl _ _ | with_reducible assumption | (refine Below.drew ?_) | (refine Below.drewN ?_ _) | (refine Below.alloc ?_ (by simp; try omega) _) | (refine Below.setCell ?_ (by simp; try omega) _)))⟩
set_option maxRecDepth 20000 in
theorem eqSymbolS_same (A A' : Option Addr) (xs : List D) (c c' : Nat) (w : World) (hr : Rd w w.heap.size A (cellsOf symbolC xs)) (hr' : Rd w w.heap.size A' (cellsOf symbolC xs)) (hm : xs.length ≤ maxLen) :
    Calls Try.prog 59 #[.slice A xs.length c, .slice A' xs.length c'] w (Ret (.bool true) w) := by
  unfold maxLen at hm
  have h0 : (((xs.length : Nat) : Int) != (xs.length : Nat)) = false := by simp
  go_enter Try.func59, Try.ntmps59
  go_wp2
  clear h0
  go_loopw [5] (fun i wr => ∃ k : Nat, k ≤ xs.length ∧ i = .int .i64 k ∧ Below w.heap.size w wr) (fun i _ => xs.length - (intOf i).toNat)
  case atStart => exact ⟨0, Nat.zero_le _, rfl, Below.refl _ _⟩
  case round =>
    obtain ⟨k, hk, rfl, hb⟩ := hrel
    have HB := hide hb
    by_cases hlt : k < xs.length
    · obtain ⟨b, off, rfl, _, hc⟩ := (hr.below hb).row symbolC_len (by decide) hlt
      obtain ⟨b', off', rfl, _, hd⟩ := (hr'.below hb).row symbolC_len (by decide) hlt
      have hc0 := hc 0 _ rfl
      have hd0 := hd 0 _ rfl
      have hc1 := hc 1 _ rfl
      have hd1 := hd 1 _ rfl
      have hc2 := hc 2 _ rfl
      have hd2 := hd 2 _ rfl
      have hc3 := hc 3 _ rfl
      have hd3 := hd 3 _ rfl
      simp only [Nat.add_zero] at hc0 hd0
      clear hr hr' hc hd hb
      generalize xs[k] = x at *
      go_wp2_with fail
      go_still_tail 8, (by kernel_rfl)
      change wpList _ _ _ _ _ wr.drew
      clear hc0 hd0 hc1 hd1 hc2 hd2 hc3 hd3
      go_wp2_with fail
      refine (eqSymbol_same _ _).mono ?_
      rintro e w2 ⟨rfl, hb2⟩
      have HB' := hide (HB.out.trans ((of_drew hb2).mono HB.out.size))
      clear hb2
      go_wp2_with fail
      go_roundw
      case rel => exact ⟨k + 1, by omega, by go_num, HB'.out⟩
      case measure => simp [intOf]; omega
    · clear hr hr'
      go_wp2_with fail
      go_ret
      exact ⟨rfl, HB.out⟩
end Go.Proofs.Ytmglgjchemecjaa.CSymbols
