/- Contracts of the laws' helpers on Warning: the copy, the comparison of equal data, the marks. Written by a program. -/
import Derived.Test.YtmglgjchemecjaaBase
import Derived.Test.YtmglgjchemecjaaRows
import Derived.StillTailTactics
namespace Go.Proofs.Ytmglgjchemecjaa.CWarnings
set_option maxRecDepth 200000
open Go.ChangeShapes Go.WideShapes Go.ChangeAt Go.RowKit Kit
theorem info : (Try.prog.info? 31).map (fun i => (i.zero, i.size, i.bytes)) = some (some (.agg #[.int .i64 0, .int .i64 0]), 2, 16) := by kernel_rfl
abbrev D := Int × Int
def warningC (r : D) : List Value := [.int .i64 r.1, .int .i64 r.2]
theorem warningC_len (r : D) : (warningC r).length = 2 := rfl
theorem eqWarning_same (x : D) (w : World) : Calls Try.prog 57 #[.agg #[.int .i64 x.1, .int .i64 x.2], .agg #[.int .i64 x.1, .int .i64 x.2]] w (Ret (.bool true) w) := by
  go_enter Try.func57, Try.ntmps57
  go_wp2
  go_ret
  exact ⟨rfl, (by repeat (first | exact Below.refl _ _ | with_reducible assumption | (refine Below.drew ?_) | (refine Below.drewN ?_ _) | (refine Below.alloc ?_ (by simp; try omega) _) | (refine Below.setCell ?_ (by simp; try omega) _)))⟩
set_option maxRecDepth 20000 in
theorem eqWarningS_same (A A' : Option Addr) (xs : List D) (c c' : Nat) (w : World) (hr : Rd w w.heap.size A (cellsOf warningC xs)) (hr' : Rd w w.heap.size A' (cellsOf warningC xs)) (hm : xs.length ≤ maxLen) :
    Calls Try.prog 18 #[.slice A xs.length c, .slice A' xs.length c'] w (Ret (.bool true) w) := by
  unfold maxLen at hm
  have h0 : (((xs.length : Nat) : Int) != (xs.length : Nat)) = false := by simp
  go_enter Try.func18, Try.ntmps18
  go_wp2
  clear h0
  go_loopw [5] (fun i wr => ∃ k : Nat, k ≤ xs.length ∧ i = .int .i64 k ∧ Below w.heap.size w wr) (fun i _ => xs.length - (intOf i).toNat)
  case atStart => exact ⟨0, Nat.zero_le _, rfl, Below.refl _ _⟩
  case round =>
    obtain ⟨k, hk, rfl, hb⟩ := hrel
    have HB := hide hb
    by_cases hlt : k < xs.length
    · obtain ⟨b, off, rfl, _, hc⟩ := (hr.below hb).row warningC_len (by decide) hlt
      obtain ⟨b', off', rfl, _, hd⟩ := (hr'.below hb).row warningC_len (by decide) hlt
      have hc0 := hc 0 _ rfl
      have hd0 := hd 0 _ rfl
      have hc1 := hc 1 _ rfl
      have hd1 := hd 1 _ rfl
      simp only [Nat.add_zero] at hc0 hd0
      clear hr hr' hc hd hb
      generalize xs[k] = x at *
      go_wp2_with fail
      go_still_tail 8, (by kernel_rfl)
      change wpList _ _ _ _ _ wr.drew
      clear hc0 hd0 hc1 hd1
      go_wp2_with fail
      refine (eqWarning_same _ _).mono ?_
      rintro e w2 ⟨rfl, hb2⟩
      have HB' := hide (HB.out.trans ((of_drew hb2).mono HB.out.size))
      clear hb2
      go_wp2_with fail
      go_roundw
      case rel => exact ⟨k + 1, by omega, by go_num, HB'.out⟩
      case measure => simp [intOf]; omega
    · clear hr hr'
      go_wp2_with fail
      go_ret
      exact ⟨rfl, HB.out⟩

def marks (k0 : Int) (m : Nat) : List D := (List.range m).map fun (i : Nat) => (k0 + 2 * (i : Int), k0 + 2 * (i : Int) + 1)
theorem marks_len (k0 : Int) (m : Nat) : (marks k0 m).length = m := by simp [marks]
theorem marks_at (k0 : Int) (m i : Nat) (h : i < m) : (marks k0 m)[i]'(by rw [marks_len]; exact h) = (k0 + 2 * (i : Int), k0 + 2 * (i : Int) + 1) := by simp [marks]
theorem marks_succ (k0 : Int) (i : Nat) : marks k0 (i + 1) = marks k0 i ++ [(k0 + 2 * (i : Int), k0 + 2 * (i : Int) + 1)] := by simp [marks, List.range_succ]
theorem mark_any (base : Nat) (A : Option Addr) (c m : Nat) (cs : List Value) (k0 : Int) (w : World) (h0 : 0 ≤ k0) (hk0 : k0 ≤ 4294967296) (hm : m ≤ 4294967296)
    (hown : w.ownsRow base 31 2 (.slice A m c) m cs) :
    Calls Try.prog 21 #[.slice A m c, .int .i64 k0] w fun e w' => e = .returned (.int .i64 (k0 + 2 * m)) ∧ w'.ownsRow base 31 2 (.slice A m c) m (cellsOf warningC (marks k0 m)) ∧ w.grownBy w' (Value.slice A m c).ownBlock := by
  go_enter Try.func21, Try.ntmps21
  go_wp2
  have hg0 := World.grownBy.refl w (Value.slice A m c).ownBlock
  go_loopw [1, 5] (fun k i wr => ∃ j : Nat, j ≤ m ∧ i = .int .i64 j ∧ k = .int .i64 (k0 + 2 * j) ∧ (∃ xs, wr.ownsRow base 31 2 (.slice A m c) m (cellsOf warningC (marks k0 j) ++ xs)) ∧ w.grownBy wr (Value.slice A m c).ownBlock) (fun _ i _ => m - (intOf i).toNat)
  case atStart => exact ⟨0, Nat.zero_le _, rfl, by simp, ⟨cs, by simpa [marks, cellsOf] using hown⟩, hg0⟩
  case round =>
    obtain ⟨j, hj, rfl, rfl, ⟨xs, ho⟩, hg⟩ := hrel
    clear hown hg0
    by_cases hlt : j < m
    · have hform : ∃ g, A = some ⟨g, 0, none⟩ := by
        rcases ho.2 with ⟨hv, h0⟩ | ⟨g, cap, cur, hv, _⟩
        · omega
        · injection hv with hA
          exact ⟨g, hA⟩
      obtain ⟨g, rfl⟩ := hform
      obtain ⟨⟨old0, hk0⟩, hfz0⟩ := own_old ho (j := j * 2) (by omega)
      obtain ⟨⟨old1, hk1⟩, hfz1⟩ := own_old ho (j := j * 2 + 1) (by omega)
      have hpl : (cellsOf warningC (marks k0 j)).length = j * 2 := by rw [cellsOf_len warningC_len, marks_len]
      have ho1 := own_put ho hpl (by omega) (.int .i64 (k0 + 2 * (j : Int)))
      have hg1 := grown_put (u := .int .i64 (k0 + 2 * (j : Int))) (j := j * 2) hg
      have ho2 := own_put ho1 (j := j * 2 + 1) (by simp only [List.length_append, hpl]; rfl) (by omega) (.int .i64 (k0 + 2 * (j : Int) + 1))
      have hg2 := grown_put (u := .int .i64 (k0 + 2 * (j : Int) + 1)) (j := j * 2 + 1) hg1
      have HH := hide (And.intro ho2 hg2)
      have E1 := hide (show k0 + 2 * (j : Int) + 1 + 1 = k0 + 2 * ((j + 1 : Nat) : Int) by omega)
      clear ho1 hg1 ho2 hg2 ho hg hpl
      go_wp2
      refine ⟨⟨j + 1, by omega, by go_num, by rw [E1.out], ⟨xs.tail.tail, ?_⟩, HH.out.2⟩, by simp [intOf]; omega⟩
      rw [marks_succ]
      simpa [cellsOf, warningC] using HH.out.1
    · have e : j = m := by omega
      subst e
      have hxs : xs = [] := by
        have := ho.1
        rw [List.length_append, cellsOf_len warningC_len, marks_len] at this
        exact List.eq_nil_of_length_eq_zero (by omega)
      subst hxs
      rw [List.append_nil] at ho
      go_wp2
      go_ret
      exact ⟨rfl, ho, hg⟩
theorem held_any (B : Nat) (A : Option Addr) (c m : Nat) (k0 : Int) (w : World) (h0 : 0 ≤ k0) (hk0 : k0 ≤ 4294967296) (hm : m ≤ 4294967296) (hr : Rd w B A (cellsOf warningC (marks k0 m))) :
    Calls Try.prog 22 #[.slice A m c, .int .i64 k0] w (Pure (.int .i64 (k0 + 2 * m)) w) := by
  go_enter Try.func22, Try.ntmps22
  go_wp2
  go_loop [1, 5] (fun k i => ∃ j : Nat, j ≤ m ∧ i = .int .i64 j ∧ k = .int .i64 (k0 + 2 * j)) (fun _ i => m - (intOf i).toNat)
  case atStart => exact ⟨0, Nat.zero_le _, rfl, by simp⟩
  case round =>
    obtain ⟨j, hj, rfl, rfl⟩ := hrel
    by_cases hlt : j < m
    · obtain ⟨b, off, rfl, _, hc⟩ := hr.row warningC_len (by decide) (k := j) (by rw [marks_len]; exact hlt)
      rw [marks_at _ _ _ hlt] at hc
      have hc0 := hc 0 _ rfl
      have hc1 := hc 1 _ rfl
      simp only [Nat.add_zero] at hc0
      have E1 := hide (show k0 + 2 * (j : Int) + 1 + 1 = k0 + 2 * ((j + 1 : Nat) : Int) by omega)
      clear hr hc
      go_wp2
      go_round
      case rel => exact ⟨j + 1, by omega, by go_num, by rw [E1.out]⟩
      case measure => simp [intOf]; omega
    · have e : j = m := by omega
      subst e
      clear hr
      go_wp2
      go_ret
      exact ⟨rfl, rfl⟩
end Go.Proofs.Ytmglgjchemecjaa.CWarnings
