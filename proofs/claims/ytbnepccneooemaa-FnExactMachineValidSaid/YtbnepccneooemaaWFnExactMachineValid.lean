/- The walk of FnExactMachineValid: the program and the reference answer alike, and the argument reads as it did. -/
import Derived.Test.YtbnepccneooemaaCMachine
import Derived.Test.YtbnepccneooemaaCMachines
import Derived.Deep.RegionHeld3
namespace Go.Proofs.Ytbnepccneooemaa.WFnExactMachineValid
set_option maxRecDepth 200000
open Go.ChangeShapes Go.WideShapes Go.ChangeAt Go.RowKit Kit CMachine CMachines
theorem rd_of (w : World) {b : Nat} {S : Option Addr} {n c : Nat} {xs : List Value} (h : w.ownsRow b 3 1 (.slice S n c) n xs) : Rd w w.heap.size S xs := Rd.of_own h
theorem six {w w' : World} {a b : Nat} {u0 u1 u2 v0 v1 v2 : Value} (hb : Below w.heap.size w w') (ha : a < w.heap.size) (hb' : b < w.heap.size) (h : w.cell? ⟨a, 0, none⟩ = some u0 ∧ w.cell? ⟨a, 1, none⟩ = some u1 ∧ w.cell? ⟨a, 2, none⟩ = some u2 ∧ w.cell? ⟨b, 0, none⟩ = some v0 ∧ w.cell? ⟨b, 1, none⟩ = some v1 ∧ w.cell? ⟨b, 2, none⟩ = some v2) :
    w'.cell? ⟨a, 0, none⟩ = some u0 ∧ w'.cell? ⟨a, 1, none⟩ = some u1 ∧ w'.cell? ⟨a, 2, none⟩ = some u2 ∧ w'.cell? ⟨b, 0, none⟩ = some v0 ∧ w'.cell? ⟨b, 1, none⟩ = some v1 ∧ w'.cell? ⟨b, 2, none⟩ = some v2 :=
  ⟨(hb.cell ha).trans h.1, (hb.cell ha).trans h.2.1, (hb.cell ha).trans h.2.2.1, (hb.cell hb').trans h.2.2.2.1, (hb.cell hb').trans h.2.2.2.2.1, (hb.cell hb').trans h.2.2.2.2.2⟩
theorem walk (at_ : Int) (S C : Option Addr) (st ca : List Int) (cs cc : Nat) (hls : st.length ≤ cs) (hlc : ca.length ≤ cc) (hcs : cs ≤ maxLen) (hcc : cc ≤ maxLen) (w : World) (hs : Rd w w.heap.size S (ints .i64 st)) (hc : Rd w w.heap.size C (ints .i64 ca)) :
    Calls Try.prog 8 #[.agg #[.int .i64 at_, .slice S st.length cs, .slice C ca.length cc]] w (LawEnds w) := by
  have HZ := hide (szMachine_any at_ S C st.length ca.length cs cc 1048576 (w.alloc (.cells #[.int .i64 at_, .slice S st.length cs, .slice C ca.length cc] 48)) (by decide) (by decide) (Nat.le_trans hls hcs) (Nat.le_trans hlc hcc))
  by_cases hbig : 1048576 - (st.length : Int) - ca.length < 0
  · rw [if_pos hbig] at HZ
    go_enter Try.func8, Try.ntmps8
    go_wp2_with fail
    refine HZ.out.mono ?_
    rintro e w' ⟨rfl, hb⟩
    have HB := (show Below w.heap.size w (w.alloc (.cells #[.int .i64 at_, .slice S st.length cs, .slice C ca.length cc] 48)) from (by repeat (first | exact Below.refl _ _ | with_reducible assumption | (refine Below.drew ?_) | (refine Below.drewN ?_ _) | (refine Below.alloc ?_ (by simp; try omega) _) | (refine Below.setCell ?_ (by simp; try omega) _)))).trans (hb.mono (by simp))
    go_wp2_with fail
    go_ret
    exact ⟨rfl, HB⟩
  rw [if_neg hbig] at HZ
  have hm1 : st.length ≤ 1048576 := by omega
  have hm2 : ca.length ≤ 1048576 := by omega
  have hm1' : st.length ≤ maxLen := by unfold maxLen; omega
  have hm2' : ca.length ≤ maxLen := by unfold maxLen; omega
  generalize hL : (1048576 - (st.length : Int) - ca.length) = L at *
  have hL0 : 0 ≤ L := by omega
  have hL1 : L ≤ 1048576 := by omega
  clear hL hbig hcs hcc hls hlc
  go_enter Try.func8, Try.ntmps8
  go_wp2_with fail
  have BA : Below w.heap.size w (w.alloc (.cells #[.int .i64 at_, .slice S st.length cs, .slice C ca.length cc] 48)) := (by repeat (first | exact Below.refl _ _ | with_reducible assumption | (refine Below.drew ?_) | (refine Below.drewN ?_ _) | (refine Below.alloc ?_ (by simp; try omega) _) | (refine Below.setCell ?_ (by simp; try omega) _)))
  have XA := Box.new w 48 #[.int .i64 at_, .slice S st.length cs, .slice C ca.length cc]
  refine HZ.out.mono ?_
  clear HZ
  generalize (w.alloc (.cells #[.int .i64 at_, .slice S st.length cs, .slice C ca.length cc] 48)) = wa at *
  rintro e w0 ⟨rfl, b0⟩
  have B0 := BA.trans (b0.mono BA.size)
  have X0 := XA.call b0
  have q0 := X0.cell 0
  have q1 := X0.cell 1
  have q2 := X0.cell 2
  have hx := X0.lt
  simp only [List.getElem?_toArray, List.getElem?_cons_zero, List.getElem?_cons_succ] at q0 q1 q2
  go_wp2_with fail
  refine (toMachine_any at_ S C st ca cs cc _ ((hs.below B0).more B0.size) ((hc.below B0).more B0.size) hm1 hm2).mono ?_
  rintro e w1 ⟨S1, cs1, C1, cc1, rfl, ⟨_, o1, o1', _⟩, b1⟩
  have B1 := B0.trans (b1.mono B0.size)
  have X1 := X0.call b1
  have q0 := X1.cell 0
  have q1 := X1.cell 1
  have q2 := X1.cell 2
  have hx := X1.lt
  simp only [List.getElem?_toArray, List.getElem?_cons_zero, List.getElem?_cons_succ] at q0 q1 q2
  have r1 := Rd.of_own o1
  have r1' := Rd.of_own o1'
  clear o1 o1'
  go_wp2_with fail
  refine (machineValidS_any at_ S1 C1 st ca cs1 cc1 _ r1 r1' hm1' hm2').mono ?_
  rintro e w2 ⟨rfl, b2⟩
  have B2 := B1.trans (b2.mono B1.size)
  have X2 := X1.call b2
  have q0 := X2.cell 0
  have q1 := X2.cell 1
  have q2 := X2.cell 2
  have hx := X2.lt
  simp only [List.getElem?_toArray, List.getElem?_cons_zero, List.getElem?_cons_succ] at q0 q1 q2
  clear r1 r1'
  go_wp2_with fail
  refine (toMachine_any at_ S C st ca cs cc _ ((hs.below B2).more B2.size) ((hc.below B2).more B2.size) hm1 hm2).mono ?_
  rintro e w3 ⟨S2, cs2, C2, cc2, rfl, ⟨_, o2, o2', _⟩, b3⟩
  have B3 := B2.trans (b3.mono B2.size)
  have X3 := X2.call b3
  have q0 := X3.cell 0
  have q1 := X3.cell 1
  have q2 := X3.cell 2
  have hx := X3.lt
  simp only [List.getElem?_toArray, List.getElem?_cons_zero, List.getElem?_cons_succ] at q0 q1 q2
  have r2 := Rd.of_own o2
  have r2' := Rd.of_own o2'
  clear o2 o2'
  go_wp2_with fail
  have bx : Below w3.heap.size w3 (w3.alloc (.cells #[.int .i64 at_, .slice S2 st.length cs2, .slice C2 ca.length cc2] 51)) := (by repeat (first | exact Below.refl _ _ | with_reducible assumption | (refine Below.drew ?_) | (refine Below.drewN ?_ _) | (refine Below.alloc ?_ (by simp; try omega) _) | (refine Below.setCell ?_ (by simp; try omega) _)))
  have Y3 := Box.new w3 51 #[.int .i64 at_, .slice S2 st.length cs2, .slice C2 ca.length cc2]
  have X3 := X3.call bx
  have r2 := (r2.below bx).more bx.size
  have r2' := (r2'.below bx).more bx.size
  have B3 := B3.trans (bx.mono B3.size)
  refine (machineValid_any at_ S2 C2 st ca cs2 cc2 0 0 _ r2 r2' hm1' hm2').mono ?_
  generalize (w3.alloc (.cells #[.int .i64 at_, .slice S2 st.length cs2, .slice C2 ca.length cc2] 51)) = w3' at *
  rintro e w4 ⟨rfl, b4⟩
  have B4 := B3.trans (b4.mono B3.size)
  have X4 := X3.call b4
  have q0 := X4.cell 0
  have q1 := X4.cell 1
  have q2 := X4.cell 2
  have hx := X4.lt
  simp only [List.getElem?_toArray, List.getElem?_cons_zero, List.getElem?_cons_succ] at q0 q1 q2
  have r2 := (r2.below b4).more b4.size
  have r2' := (r2'.below b4).more b4.size
  have Y4 := Y3.call b4
  go_wp2_with fail
  have y0 := Y4.cell 0
  have y1 := Y4.cell 1
  have y2 := Y4.cell 2
  have hy := Y4.lt
  simp only [List.getElem?_toArray, List.getElem?_cons_zero, List.getElem?_cons_succ] at y0 y1 y2
  have HS := hide (And.intro ((hs.below B4).more B4.size) ((hc.below B4).more B4.size))
  have HR2 := hide (And.intro r2 r2')
  have HB4 := hide B4
  clear X0 X1 X2 X3 X4 Y3 Y4 B0 B1 B2 B3 B4 b0 b1 b2 b3 b4 bx hs hc r2 r2' BA XA
  have Z4 : w4.cell? ⟨w3.heap.size, 0, none⟩ = some (.int .i64 at_) ∧ w4.cell? ⟨w3.heap.size, 1, none⟩ = some (.slice S2 st.length cs2) ∧ w4.cell? ⟨w3.heap.size, 2, none⟩ = some (.slice C2 ca.length cc2) ∧ w4.cell? ⟨w.heap.size, 0, none⟩ = some (.int .i64 at_) ∧ w4.cell? ⟨w.heap.size, 1, none⟩ = some (.slice S st.length cs) ∧ w4.cell? ⟨w.heap.size, 2, none⟩ = some (.slice C ca.length cc) := ⟨y0, y1, y2, q0, q1, q2⟩
  go_region_held3 (fun (W : World) => W.cell? ⟨w3.heap.size, 0, none⟩ = some (.int .i64 at_) ∧ W.cell? ⟨w3.heap.size, 1, none⟩ = some (.slice S2 st.length cs2) ∧ W.cell? ⟨w3.heap.size, 2, none⟩ = some (.slice C2 ca.length cc2) ∧ W.cell? ⟨w.heap.size, 0, none⟩ = some (.int .i64 at_) ∧ W.cell? ⟨w.heap.size, 1, none⟩ = some (.slice S st.length cs) ∧ W.cell? ⟨w.heap.size, 2, none⟩ = some (.slice C ca.length cc)) (first | exact Z4 | exact Z5 | exact Z6) (first | (go_at_call 35; refine (toMachine_any at_ S C st ca cs cc _ (by exact HS.out.1) (by exact HS.out.2) hm1 hm2).mono ?_; rintro e w5 ⟨S3, cs3, C3, cc3, rfl, ⟨_, o3, o3', _⟩, hb5⟩; have HR3 := hide (And.intro (Rd.of_own o3) (Rd.of_own o3')); have HB5 := hide (below_drawn hb5); have Z5 := six HB5.out hy hx Z4; clear o3 o3' hb5) | (go_at_call 37; refine (eqMachine_same at_ S2 S3 C2 C3 st ca cs2 cs3 cc2 cc3 _ (by exact (HR2.out.1.below HB5.out).more HB5.out.size) (by exact HR3.out.1) (by exact (HR2.out.2.below HB5.out).more HB5.out.size) (by exact HR3.out.2) hm1' hm2').mono ?_; rintro e w6 ⟨rfl, hb6⟩; have HB6 := hide (below_drawn hb6); have Z6 := six HB6.out (Nat.lt_of_lt_of_le hy HB5.out.size) (Nat.lt_of_lt_of_le hx HB5.out.size) Z5; clear hb6))
  have B6 := (HB4.out.trans (HB5.out.mono HB4.out.size)).trans (HB6.out.mono (HB4.out.trans (HB5.out.mono HB4.out.size)).size)
  go_wp2_with fail
  go_ret
  exact ⟨rfl, B6⟩
end Go.Proofs.Ytbnepccneooemaa.WFnExactMachineValid
