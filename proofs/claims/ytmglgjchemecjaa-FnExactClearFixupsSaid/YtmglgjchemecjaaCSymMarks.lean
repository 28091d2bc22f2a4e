/- The marks of symbols; marks of rows. -/
import Derived.Test.YtmglgjchemecjaaBObj
import Derived.Test.YtmglgjchemecjaaCMarkText
import Derived.Test.YtmglgjchemecjaaBReg
namespace Go.Proofs.Ytmglgjchemecjaa.CSymMarks
set_option maxRecDepth 200000
open Go.ChangeShapes Go.WideShapes Go.ChangeAt Go.RowKit Kit CFixups CSymbols PObj BObj CMarkText
def ymark (k : Int) : YD := (mtx k, k + 1, k + 1 + 1, k + 1 + 1 + 1)
def ymarks (k0 : Int) (m : Nat) : List YD := (List.range m).map fun (i : Nat) => ymark (k0 + 4 * (i : Int))
theorem ymarks_len (k0 : Int) (m : Nat) : (ymarks k0 m).length = m := by simp [ymarks]
theorem ymarks_at (k0 : Int) (m i : Nat) (h : i < m) : (ymarks k0 m)[i]'(by rw [ymarks_len]; exact h) = ymark (k0 + 4 * (i : Int)) := by simp [ymarks]
theorem ymarks_succ (k0 : Int) (i : Nat) : ymarks k0 (i + 1) = ymarks k0 i ++ [ymark (k0 + 4 * (i : Int))] := by simp [ymarks, List.range_succ]
theorem ymark_any (base : Nat) (A : Option Addr) (c m : Nat) (cs : List Value) (k0 : Int) (w : World) (h0 : 0 ≤ k0) (hk0 : k0 ≤ 4294967296) (hm : m ≤ 4294967296)
    (hown : w.ownsRow base 69 4 (.slice A m c) m cs) :
    Calls Try.prog 61 #[.slice A m c, .int .i64 k0] w fun e w' => e = .returned (.int .i64 (k0 + 4 * m)) ∧ w'.ownsRow base 69 4 (.slice A m c) m (cellsOf symbolC (ymarks k0 m)) ∧ w.grownBy w' (Value.slice A m c).ownBlock := by
  go_enter Try.func61, Try.ntmps61
  go_wp2
  have hg0 := World.grownBy.refl w (Value.slice A m c).ownBlock
  go_loopw [1, 5] (fun k i wr => ∃ j : Nat, j ≤ m ∧ i = .int .i64 j ∧ k = .int .i64 (k0 + 4 * j) ∧ (∃ xs, wr.ownsRow base 69 4 (.slice A m c) m (cellsOf symbolC (ymarks k0 j) ++ xs)) ∧ w.grownBy wr (Value.slice A m c).ownBlock) (fun _ i _ => m - (intOf i).toNat)
  case atStart => exact ⟨0, Nat.zero_le _, rfl, by simp, ⟨cs, by simpa [ymarks, cellsOf] using hown⟩, hg0⟩
  case round =>
    obtain ⟨j, hj, rfl, rfl, ⟨xs, ho⟩, hg⟩ := hrel
    clear hown hg0
    by_cases hlt : j < m
    · have hform : ∃ g, A = some ⟨g, 0, none⟩ := by
        rcases ho.2 with ⟨hv, h0⟩ | ⟨g, cap, cur, hv, _⟩
        · omega
        · injection hv with hA
          exact ⟨g, hA⟩
      obtain ⟨g, rfl⟩ := hform
      have HO := hide ho
      have HG := hide hg
      clear ho hg
      go_wp2_with fail
      refine (markText_any (k0 + 4 * j) _ (by omega)).mono ?_
      rintro e w2 ⟨rfl, b2⟩
      have ho := own_call b2 HO.out
      have hg := grown_below HG.out b2
      obtain ⟨⟨old0, hk0⟩, hfz0⟩ := own_old ho (j := j * 4) (by omega)
      obtain ⟨⟨old1, hk1⟩, hfz1⟩ := own_old ho (j := j * 4 + 1) (by omega)
      obtain ⟨⟨old2, hk2⟩, hfz2⟩ := own_old ho (j := j * 4 + 2) (by omega)
      obtain ⟨⟨old3, hk3⟩, hfz3⟩ := own_old ho (j := j * 4 + 3) (by omega)
      have hpl : (cellsOf symbolC (ymarks k0 j)).length = j * 4 := by rw [cellsOf_len symbolC_len, ymarks_len]
      have ho1 := own_put ho hpl (by omega) (.string (mtx (k0 + 4 * j)))
      have hg1 := grown_put (u := .string (mtx (k0 + 4 * j))) (j := j * 4) hg
      have ho2 := own_put ho1 (j := j * 4 + 1) (by simp only [List.length_append, hpl]; rfl) (by omega) (.int .i64 (k0 + 4 * (j : Int) + 1))
      have hg2 := grown_put (u := .int .i64 (k0 + 4 * (j : Int) + 1)) (j := j * 4 + 1) hg1
      have ho3 := own_put ho2 (j := j * 4 + 2) (by simp only [List.length_append, hpl]; rfl) (by omega) (.int .i64 (k0 + 4 * (j : Int) + 1 + 1))
      have hg3 := grown_put (u := .int .i64 (k0 + 4 * (j : Int) + 1 + 1)) (j := j * 4 + 2) hg2
      have ho4 := own_put ho3 (j := j * 4 + 3) (by simp only [List.length_append, hpl]; rfl) (by omega) (.int .i64 (k0 + 4 * (j : Int) + 1 + 1 + 1))
      have hg4 := grown_put (u := .int .i64 (k0 + 4 * (j : Int) + 1 + 1 + 1)) (j := j * 4 + 3) hg3
      have HH := hide (And.intro ho4 hg4)
      have E1 := hide (show k0 + 4 * (j : Int) + 1 + 1 + 1 + 1 = k0 + 4 * ((j + 1 : Nat) : Int) by omega)
      clear ho1 hg1 ho2 hg2 ho3 hg3 ho4 hg4 ho hg hpl HO HG b2
      go_wp2
      refine ⟨⟨j + 1, by omega, by go_num, by rw [E1.out], ⟨xs.tail.tail.tail.tail, ?_⟩, HH.out.2⟩, by simp [intOf]; omega⟩
      rw [ymarks_succ]
      simpa [cellsOf, symbolC, ymark] using HH.out.1
    · have e : j = m := by omega
      subst e
      have hxs : xs = [] := by
        have := ho.1
        rw [List.length_append, cellsOf_len symbolC_len, ymarks_len] at this
        exact List.eq_nil_of_length_eq_zero (by omega)
      subst hxs
      rw [List.append_nil] at ho
      go_wp2
      go_ret
      exact ⟨rfl, ho, hg⟩
theorem yheld_any (A : Option Addr) (c m : Nat) (k0 : Int) (w : World) (h0 : 0 ≤ k0) (hk0 : k0 ≤ 4294967296) (hm : m ≤ 4294967296) (hr : Rd w w.heap.size A (cellsOf symbolC (ymarks k0 m))) :
    Calls Try.prog 64 #[.slice A m c, .int .i64 k0] w (Ret (.int .i64 (k0 + 4 * m)) w) := by
  go_enter Try.func64, Try.ntmps64
  go_wp2
  go_loopw [1, 5] (fun k i wr => ∃ j : Nat, j ≤ m ∧ i = .int .i64 j ∧ k = .int .i64 (k0 + 4 * j) ∧ Below w.heap.size w wr) (fun _ i _ => m - (intOf i).toNat)
  case atStart => exact ⟨0, Nat.zero_le _, rfl, by simp, Below.refl _ _⟩
  case round =>
    obtain ⟨j, hj, rfl, rfl, hb⟩ := hrel
    have HB := hide hb
    by_cases hlt : j < m
    · obtain ⟨b, off, rfl, hbg, hc⟩ := (hr.below hb).row symbolC_len (by decide) (k := j) (by rw [ymarks_len]; exact hlt)
      rw [ymarks_at _ _ _ hlt] at hc
      have hc0 := hc 0 _ rfl
      have hc1 := hc 1 _ rfl
      have hc2 := hc 2 _ rfl
      have hc3 := hc 3 _ rfl
      simp only [Nat.add_zero, ymark] at hc0 hc1 hc2 hc3
      have hbl : b < wr.heap.size := Nat.lt_of_lt_of_le hbg hb.size
      have HC := hide (And.intro hc1 (And.intro hc2 hc3))
      have E1 := hide (show k0 + 4 * (j : Int) + 1 + 1 + 1 + 1 = k0 + 4 * ((j + 1 : Nat) : Int) by omega)
      clear hr hc hb hc1 hc2 hc3
      go_wp2_with fail
      refine Reg.startT (fun V => V.cell? ⟨b, off + j * 4, none⟩ = some (.string (mtx (k0 + 4 * j)))) (fun _ => false) (by kernel_rfl) ?_
      have hHeld : wr.drew.cell? ⟨b, off + j * 4, none⟩ = some (.string (mtx (k0 + 4 * j))) := hc0
      refine Reg.takeT (i := 0) (v := ?_) rfl (by kernel_rfl) (by kernel_rfl) (by kernel_rfl) (by kernel_rfl) (fun _ _ _ h => h) (Or.inl ⟨by rfl, ?_⟩) (by assumption) ?_
      rotate_left 1
      focus (intro w hSw; (try dsimp only at hSw); go_simp; (try with_reducible rfl))
      try simp only [List.getElem_toArray, List.getElem_cons_succ, List.getElem_cons_zero, Act.put, List.setIfInBounds_toArray, List.set_cons_zero, List.set_cons_succ]
      refine Reg.takeT (i := 1) (v := ?_) rfl (by kernel_rfl) (by kernel_rfl) (by kernel_rfl) (by kernel_rfl) (fun _ _ _ h => h) (Or.inl ⟨by rfl, ?_⟩) (by assumption) ?_
      rotate_left 1
      focus (intro w hSw; (try dsimp only at hSw); go_simp; (try with_reducible rfl))
      try simp only [List.getElem_toArray, List.getElem_cons_succ, List.getElem_cons_zero, Act.put, List.setIfInBounds_toArray, List.set_cons_zero, List.set_cons_succ]
      refine Reg.takeT (i := 2) (v := ?_) rfl (by kernel_rfl) (by kernel_rfl) (by kernel_rfl) (by kernel_rfl) (fun _ _ _ h => h) (Or.inl ⟨by rfl, ?_⟩) (by assumption) ?_
      rotate_left 1
      focus (intro w hSw; (try dsimp only at hSw); go_simp; (try with_reducible rfl))
      try simp only [List.getElem_toArray, List.getElem_cons_succ, List.getElem_cons_zero, Act.put, List.setIfInBounds_toArray, List.set_cons_zero, List.set_cons_succ]
      refine Reg.takeT (i := 3) (v := ?_) rfl (by kernel_rfl) (by kernel_rfl) (by kernel_rfl) (by kernel_rfl) (fun _ _ _ h => h) (Or.inl ⟨by rfl, ?_⟩) (by assumption) ?_
      rotate_left 1
      focus (intro w hSw; (try dsimp only at hSw); go_simp; (try with_reducible rfl))
      try simp only [List.getElem_toArray, List.getElem_cons_succ, List.getElem_cons_zero, Act.put, List.setIfInBounds_toArray, List.set_cons_zero, List.set_cons_succ]
      refine Reg.takeT (i := 4) (v := ?_) rfl (by kernel_rfl) (by kernel_rfl) (by kernel_rfl) (by kernel_rfl) (fun _ _ _ h => h) (Or.inl ⟨by rfl, ?_⟩) (by assumption) ?_
      rotate_left 1
      focus (intro w hSw; (try dsimp only at hSw); go_simp; (try with_reducible rfl))
      try simp only [List.getElem_toArray, List.getElem_cons_succ, List.getElem_cons_zero, Act.put, List.setIfInBounds_toArray, List.set_cons_zero, List.set_cons_succ]
      refine Reg.takeT (i := 5) (v := ?_) rfl (by kernel_rfl) (by kernel_rfl) (by kernel_rfl) (by kernel_rfl) (fun _ _ _ h => h) (Or.inl ⟨by rfl, ?_⟩) (by assumption) ?_
      rotate_left 1
      focus (intro w hSw; (try dsimp only at hSw); go_simp; (try with_reducible rfl))
      try simp only [List.getElem_toArray, List.getElem_cons_succ, List.getElem_cons_zero, Act.put, List.setIfInBounds_toArray, List.set_cons_zero, List.set_cons_succ]
      refine Reg.oneT (i := 6) rfl (by kernel_rfl) (fun K hK => ?_)
      go_simp
      refine (markText_any (k0 + 4 * j) _ (by omega)).mono ?_
      rintro e w2 ⟨rfl, b2⟩
      have b2' := of_drew b2
      have hHeld : w2.cell? ⟨b, off + j * 4, none⟩ = some (.string (mtx (k0 + 4 * j))) := (b2'.cell (p := ⟨b, off + j * 4, none⟩) hbl).trans hc0
      refine hK.out _ _ hHeld ?_
      clear hK K
      try simp only [List.getElem_toArray, List.getElem_cons_succ, List.getElem_cons_zero, Act.put, List.setIfInBounds_toArray, List.set_cons_zero, List.set_cons_succ]
      refine Reg.takeT (i := 7) (v := ?_) rfl (by kernel_rfl) (by kernel_rfl) (by kernel_rfl) (by kernel_rfl) (fun _ _ _ h => h) (Or.inl ⟨by rfl, ?_⟩) (by assumption) ?_
      rotate_left 1
      focus (intro w hSw; (try dsimp only at hSw); go_simp; (try with_reducible rfl))
      try simp only [List.getElem_toArray, List.getElem_cons_succ, List.getElem_cons_zero, Act.put, List.setIfInBounds_toArray, List.set_cons_zero, List.set_cons_succ]
      refine Reg.doneT (by kernel_rfl) ?_ _
      clear hHeld
      have HB' := hide (HB.out.trans (b2'.mono HB.out.size))
      have hc1 := (b2'.cell (p := ⟨b, off + j * 4 + 1, none⟩) hbl).trans HC.out.1
      have hc2 := (b2'.cell (p := ⟨b, off + j * 4 + 2, none⟩) hbl).trans HC.out.2.1
      have hc3 := (b2'.cell (p := ⟨b, off + j * 4 + 3, none⟩) hbl).trans HC.out.2.2
      clear b2 b2' HC hc0
      go_wp2_with fail
      go_roundw
      case rel => exact ⟨j + 1, by omega, by go_num, by rw [E1.out], HB'.out⟩
      case measure => simp [intOf]; omega
    · have e : j = m := by omega
      subst e
      clear hr
      go_wp2_with fail
      go_ret
      exact ⟨rfl, HB.out⟩
end Go.Proofs.Ytmglgjchemecjaa.CSymMarks
