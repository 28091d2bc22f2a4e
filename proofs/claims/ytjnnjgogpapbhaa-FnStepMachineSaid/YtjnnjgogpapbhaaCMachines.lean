/- Contracts of the laws' helpers on Machine: the copy, the comparison of equal data, the size. -/
import Derived.Test.YtjnnjgogpapbhaaCInts
import Derived.Test.YtjnnjgogpapbhaaBase2
import Derived.Test.YtjnnjgogpapbhaaIn
namespace Go.Proofs.Ytjnnjgogpapbhaa.CMachines
set_option maxRecDepth 200000
open Go.ChangeShapes Go.WideShapes Go.ChangeAt Go.RowKit Kit CInts
/-- Two own rows, the second one made after the first. -/
def Two (w : World) (base : Nat) (S : Option Addr) (n cs : Nat) (xs : List Value) (C : Option Addr) (m cc : Nat) (ys : List Value) : Prop :=
  ∃ b, w.ownsRow base 3 1 (.slice S n cs) n xs ∧ w.ownsRow b 3 1 (.slice C m cc) m ys ∧ base ≤ b ∧ (∀ k, (Value.slice S n cs).ownBlock = some k → k < b)
theorem toMachine_any (at_ : Int) (S C : Option Addr) (st ca : List Int) (cs cc : Nat) (w : World) (hs : Rd w w.heap.size S (ints .i64 st)) (hc : Rd w w.heap.size C (ints .i64 ca)) (hsm : st.length ≤ 1048576) (hcm : ca.length ≤ 1048576) :
    Calls Try.prog 24 #[.agg #[.int .i64 at_, .slice S st.length cs, .slice C ca.length cc]] w fun e w' => ∃ S' cs' C' cc', e = .returned (.agg #[.int .i64 at_, .slice S' st.length cs', .slice C' ca.length cc']) ∧
      Two w' w.heap.size S' st.length cs' (ints .i64 st) C' ca.length cc' (ints .i64 ca) ∧ Below w.heap.size w w' := by
  go_enter Try.func24, Try.ntmps24
  go_wp2_with fail
  have a1 := Box.new w 46 #[.int .i64 at_, .slice S st.length cs, .slice C ca.length cc]
  have a2 := Box.new (w.alloc (.cells #[.int .i64 at_, .slice S st.length cs, .slice C ca.length cc] 46)) 25 #[.int .i64 0, .slice none 0 0, .slice none 0 0]
  have a3 := Box.new ((w.alloc (.cells #[.int .i64 at_, .slice S st.length cs, .slice C ca.length cc] 46)).alloc (.cells #[.int .i64 0, .slice none 0 0, .slice none 0 0] 25)) 25 #[.int .i64 at_, .slice none 0 0, .slice none 0 0]
  have B0 : Below w.heap.size w (((w.alloc (.cells #[.int .i64 at_, .slice S st.length cs, .slice C ca.length cc] 46)).alloc (.cells #[.int .i64 0, .slice none 0 0, .slice none 0 0] 25)).alloc (.cells #[.int .i64 at_, .slice none 0 0, .slice none 0 0] 25)) := (by repeat (first | exact Below.refl _ _ | with_reducible assumption | (refine Below.drew ?_) | (refine Below.drewN ?_ _) | (refine Below.alloc ?_ (by simp; try omega) _) | (refine Below.setCell ?_ (by simp; try omega) _)))
  have a1 := (a1.alloc (.cells #[.int .i64 0, .slice none 0 0, .slice none 0 0] 25)).alloc (.cells #[.int .i64 at_, .slice none 0 0, .slice none 0 0] 25)
  have a2 := a2.alloc (.cells #[.int .i64 at_, .slice none 0 0, .slice none 0 0] 25)
  simp only [World.size_alloc] at a2 a3
  have z0 : (((w.alloc (.cells #[.int .i64 at_, .slice S st.length cs, .slice C ca.length cc] 46)).alloc (.cells #[.int .i64 0, .slice none 0 0, .slice none 0 0] 25)).alloc (.cells #[.int .i64 at_, .slice none 0 0, .slice none 0 0] 25)).heap.size = w.heap.size + 1 + 1 + 1 := by simp
  refine (toIntS_any S st cs _ ((hs.below B0).more B0.size) hsm).mono ?_
  generalize ((w.alloc (.cells #[.int .i64 at_, .slice S st.length cs, .slice C ca.length cc] 46)).alloc (.cells #[.int .i64 0, .slice none 0 0, .slice none 0 0] 25)).alloc (.cells #[.int .i64 at_, .slice none 0 0, .slice none 0 0] 25) = w0 at *
  rintro e w1 ⟨S', cs', rfl, o1, b1⟩
  have z1 := b1.size
  have B1 := B0.trans (b1.mono B0.size)
  have a1 := a1.call b1
  have a2 := a2.call b1
  have a3 := a3.call b1
  have c3 := a3.cell 1
  have f3 := a3.frozen 1
  have a1 := a1.far (p := ⟨w.heap.size + 1 + 1, 1, none⟩) (by simp; omega) (.slice S' st.length cs')
  have a2 := a2.far (p := ⟨w.heap.size + 1 + 1, 1, none⟩) (by simp) (.slice S' st.length cs')
  have a3 := a3.set 1 (.slice S' st.length cs')
  simp only [List.setIfInBounds_toArray, List.set_cons_succ, List.set_cons_zero] at a3
  have o1 := ownsRow_setCell_below o1 (a := ⟨w.heap.size + 1 + 1, 1, none⟩) (by rw [z0]; simp) (.slice S' st.length cs')
  have B1 := B1.setCell (p := ⟨w.heap.size + 1 + 1, 1, none⟩) (by simp; omega) (.slice S' st.length cs')
  have q1 := a1.cell 2
  simp only [List.getElem?_toArray, List.getElem?_cons_zero, List.getElem?_cons_succ] at c3 q1
  have z1' : (w1.setCell ⟨w.heap.size + 1 + 1, 1, none⟩ (.slice S' st.length cs')).heap.size = w1.heap.size := by simp
  have z1 : w0.heap.size ≤ w1.heap.size ∧ (w1.setCell ⟨w.heap.size + 1 + 1, 1, none⟩ (.slice S' st.length cs')).heap.size = w1.heap.size := ⟨z1, z1'⟩
  clear b1 z1'
  have H := hide (And.intro o1 (And.intro B1 (And.intro a2 (And.intro a3 (And.intro z1 hc)))))
  clear o1 B1 a2 a3 z1 hc
  go_wp2_with fail
  clear c3 f3 q1 a1
  obtain ⟨o1, B1, a2, a3, z1, hc⟩ := H.out
  clear H
  obtain ⟨z1, z2⟩ := z1
  refine (toIntS_any C ca cc _ ((hc.below B1).more B1.size) hcm).mono ?_
  generalize (w1.setCell ⟨w.heap.size + 1 + 1, 1, none⟩ (.slice S' st.length cs')) = w2 at *
  rintro e w3 ⟨C', cc', rfl, o2, b2⟩
  have z3 := b2.size
  have B3 := B1.trans (b2.mono B1.size)
  have a2 := a2.call b2
  have a3 := a3.call b2
  have o3 := own_call b2 o1
  have l3 := o1.lt
  have c3 := a3.cell 2
  have f3 := a3.frozen 2
  have o3 := ownsRow_setCell_below o3 (a := ⟨w.heap.size + 1 + 1, 2, none⟩) (by rw [z0]; simp) (.slice C' ca.length cc')
  have o2 := ownsRow_setCell_below o2 (a := ⟨w.heap.size + 1 + 1, 2, none⟩) (by simp; omega) (.slice C' ca.length cc')
  have a2 := a2.far (p := ⟨w.heap.size + 1 + 1, 2, none⟩) (by simp) (.slice C' ca.length cc')
  have a3 := a3.set 2 (.slice C' ca.length cc')
  have B3 := B3.setCell (p := ⟨w.heap.size + 1 + 1, 2, none⟩) (by simp; omega) (.slice C' ca.length cc')
  simp only [List.getElem?_toArray, List.getElem?_cons_zero, List.getElem?_cons_succ] at c3
  simp only [List.setIfInBounds_toArray, List.set_cons_succ, List.set_cons_zero] at a3
  have g30 := a3.cell 0
  have g31 := a3.cell 1
  have g32 := a3.cell 2
  have g20 := a2.cell 0
  have g21 := a2.cell 1
  have g22 := a2.cell 2
  have f20 := a2.frozen 0
  have f21 := a2.frozen 1
  have f22 := a2.frozen 2
  have a4 := ((a2.set 0 (.int .i64 at_)).set 1 (.slice S' st.length cs')).set 2 (.slice C' ca.length cc')
  simp only [List.setIfInBounds_toArray, List.set_cons_succ, List.set_cons_zero] at a4
  have g40 := a4.cell 0
  have g41 := a4.cell 1
  have g42 := a4.cell 2
  have o2 := ownsRow_setCell_below (ownsRow_setCell_below (ownsRow_setCell_below o2 (a := ⟨w.heap.size + 1, 0, none⟩) (by simp; omega) (.int .i64 at_)) (a := ⟨w.heap.size + 1, 1, none⟩) (by simp; omega) (.slice S' st.length cs')) (a := ⟨w.heap.size + 1, 2, none⟩) (by simp; omega) (.slice C' ca.length cc')
  have o3 := ownsRow_setCell_below (ownsRow_setCell_below (ownsRow_setCell_below o3 (a := ⟨w.heap.size + 1, 0, none⟩) (by simp; omega) (.int .i64 at_)) (a := ⟨w.heap.size + 1, 1, none⟩) (by simp; omega) (.slice S' st.length cs')) (a := ⟨w.heap.size + 1, 2, none⟩) (by simp; omega) (.slice C' ca.length cc')
  have B3 := ((B3.setCell (p := ⟨w.heap.size + 1, 0, none⟩) (by simp) (.int .i64 at_)).setCell (p := ⟨w.heap.size + 1, 1, none⟩) (by simp) (.slice S' st.length cs')).setCell (p := ⟨w.heap.size + 1, 2, none⟩) (by simp) (.slice C' ca.length cc')
  simp only [List.getElem?_toArray, List.getElem?_cons_zero, List.getElem?_cons_succ] at g30 g31 g32 g20 g21 g22 g40 g41 g42
  have HT := hide (show Two _ w.heap.size S' st.length cs' (ints .i64 st) C' ca.length cc' (ints .i64 ca) from ⟨w2.heap.size, own_base o3 (by omega), o2, by omega, fun k hk => by have := (l3 k hk).2; omega⟩)
  have HB := hide B3
  clear o1 o2 o3 B1 B3 l3 z1 z2 z3 a2 a3 a4 b2 hc hs B0 z0
  go_wp2_with fail
  exact bodyPost_ret (v := .agg #[.int .i64 at_, .slice S' st.length cs', .slice C' ca.length cc']) (by simp [results, Try.results24, go_sem, g40, g41, g42]) rfl ⟨_, _, _, _, rfl, HT.out, HB.out⟩
def szI (left n : Int) : Int := if left - n < 0 then -1 else left - n
theorem szIntS_any (A : Option Addr) (n c : Nat) (left : Int) (w : World) (h0 : 0 ≤ left) (h1 : left ≤ 1048576) (hn : n ≤ maxLen) : Calls Try.prog 52 #[.slice A n c, .int .i64 left] w (Pure (.int .i64 (szI left n)) w) := by
  unfold maxLen at hn
  unfold szI
  by_cases h : left - n < 0
  · go_enter Try.func52, Try.ntmps52
    go_wp2
    go_ret
    exact ⟨ret_int (by first | rfl | (rw [if_pos (by omega)]) | (rw [if_neg (by omega)])), rfl⟩
  · go_enter Try.func52, Try.ntmps52
    go_wp2
    go_ret
    exact ⟨ret_int (by first | rfl | (rw [if_pos (by omega)]) | (rw [if_neg (by omega)])), rfl⟩
theorem szMachine_any (at_ : Int) (S C : Option Addr) (n m cs cc : Nat) (left : Int) (w : World) (h0 : 0 ≤ left) (h1 : left ≤ 1048576) (hn : n ≤ maxLen) (hm : m ≤ maxLen) :
    Calls Try.prog 22 #[.agg #[.int .i64 at_, .slice S n cs, .slice C m cc], .int .i64 left] w (Ret (.int .i64 (if left - n - m < 0 then -1 else left - n - m)) w) := by
  have hn' := hn
  unfold maxLen at hn'
  by_cases h : left - n < 0
  · have e1 : szI left n = -1 := by rw [szI, if_pos h]
    go_enter Try.func22, Try.ntmps22
    go_wp2_with fail
    refine (szIntS_any S n cs left _ h0 h1 hn).mono ?_
    rintro e w' ⟨rfl, rfl⟩
    rw [e1]
    go_wp2_with fail
    go_ret
    exact ⟨ret_int (by first | rfl | (rw [if_pos (by omega)]) | (rw [if_neg (by omega)])), (by repeat (first | exact Below.refl _ _ | with_reducible assumption | (refine Below.drew ?_) | (refine Below.drewN ?_ _) | (refine Below.alloc ?_ (by simp; try omega) _) | (refine Below.setCell ?_ (by simp; try omega) _)))⟩
  · have e1 : szI left n = left - n := by rw [szI, if_neg h]
    by_cases h2 : left - n - m < 0
    · have e2 : szI (left - n) m = -1 := by rw [szI, if_pos h2]
      go_enter Try.func22, Try.ntmps22
      go_wp2_with fail
      refine (szIntS_any S n cs left _ h0 h1 hn).mono ?_
      rintro e w' ⟨rfl, rfl⟩
      rw [e1]
      go_wp2_with fail
      refine (szIntS_any C m cc _ _ (by omega) (by omega) hm).mono ?_
      rintro e w' ⟨rfl, rfl⟩
      rw [e2]
      go_wp2_with fail
      go_ret
      exact ⟨ret_int (by first | rfl | (rw [if_pos (by omega)]) | (rw [if_neg (by omega)])), (by repeat (first | exact Below.refl _ _ | with_reducible assumption | (refine Below.drew ?_) | (refine Below.drewN ?_ _) | (refine Below.alloc ?_ (by simp; try omega) _) | (refine Below.setCell ?_ (by simp; try omega) _)))⟩
    · have e2 : szI (left - n) m = left - n - m := by rw [szI, if_neg h2]
      go_enter Try.func22, Try.ntmps22
      go_wp2_with fail
      refine (szIntS_any S n cs left _ h0 h1 hn).mono ?_
      rintro e w' ⟨rfl, rfl⟩
      rw [e1]
      go_wp2_with fail
      refine (szIntS_any C m cc _ _ (by omega) (by omega) hm).mono ?_
      rintro e w' ⟨rfl, rfl⟩
      rw [e2]
      go_wp2_with fail
      go_ret
      exact ⟨ret_int (by first | rfl | (rw [if_pos (by omega)]) | (rw [if_neg (by omega)])), (by repeat (first | exact Below.refl _ _ | with_reducible assumption | (refine Below.drew ?_) | (refine Below.drewN ?_ _) | (refine Below.alloc ?_ (by simp; try omega) _) | (refine Below.setCell ?_ (by simp; try omega) _)))⟩
theorem eqMachine_same (at_ : Int) (S S' C C' : Option Addr) (st ca : List Int) (cs cs' cc cc' : Nat) (w : World) (hs : Rd w w.heap.size S (ints .i64 st)) (hs' : Rd w w.heap.size S' (ints .i64 st)) (hc : Rd w w.heap.size C (ints .i64 ca)) (hc' : Rd w w.heap.size C' (ints .i64 ca)) (hn : st.length ≤ maxLen) (hm : ca.length ≤ maxLen) :
    Calls Try.prog 27 #[.agg #[.int .i64 at_, .slice S st.length cs, .slice C ca.length cc], .agg #[.int .i64 at_, .slice S' st.length cs', .slice C' ca.length cc']] w (Ret (.bool true) w) := by
  have B0 : Below w.heap.size w ((w.alloc (.cells #[.int .i64 at_, .slice S st.length cs, .slice C ca.length cc] 25)).alloc (.cells #[.int .i64 at_, .slice S' st.length cs', .slice C' ca.length cc'] 25)) := (by repeat (first | exact Below.refl _ _ | with_reducible assumption | (refine Below.drew ?_) | (refine Below.drewN ?_ _) | (refine Below.alloc ?_ (by simp; try omega) _) | (refine Below.setCell ?_ (by simp; try omega) _)))
  have h0 : (at_ != at_) = false := by simp
  go_enter Try.func27, Try.ntmps27
  go_wp2_with fail
  refine (eqIntS_any S S' st st cs cs' _ _ ((hs.below B0).more B0.size) ((hs'.below B0).more B0.size) hn hn).mono ?_
  rintro e w1 ⟨rfl, n1, rfl⟩
  simp only [beq_self_eq_true]
  go_wp2_with fail
  refine (eqIntS_any C C' ca ca cc cc' _ _ ((hc.below (Kit.Below.drewN B0 n1)).more (Kit.Below.drewN B0 n1).size) ((hc'.below (Kit.Below.drewN B0 n1)).more (Kit.Below.drewN B0 n1).size) hm hm).mono ?_
  rintro e w1 ⟨rfl, n2, rfl⟩
  simp only [beq_self_eq_true]
  go_wp2_with fail
  go_ret
  exact ⟨rfl, Kit.Below.drewN B0 _⟩
end Go.Proofs.Ytjnnjgogpapbhaa.CMachines
