/- Contracts of slices.Clone at []int and of the copy of a machine, the program's and the reference's. -/
import Derived.Test.YtjnnjgogpapbhaaCMachine
import Derived.Test.YtjnnjgogpapbhaaCPutCode
import Derived.Test.YtjnnjgogpapbhaaCMachines
import Derived.Test.YtjnnjgogpapbhaaBase5
import Derived.Deep.RegionHeld3
import Derived.Deep.RegionLaw
import Derived.Deep.RegionLawGrows
import Derived.IntWalk
import Derived.WalkSpells
namespace Go.Proofs.Ytjnnjgogpapbhaa.CStep
set_option maxRecDepth 200000
open Go.ChangeShapes Go.WideShapes Go.ChangeAt Go.RowKit Kit CCode CMachine CMachines CInts CPutCode
theorem clone_any (A : Option Addr) (xs : List Int) (c B : Nat) (w : World) (hx : Rd w B A (ints .i64 xs)) (hB : B ≤ w.heap.size) (hxm : xs.length ≤ 1048576) (hnil : A = none → c = 0) :
    Calls Try.prog 79 #[.slice A xs.length c] w (RetInts 3 .i64 xs w) := by
  obtain ⟨i0, hi, hz0, hz1, hz2⟩ := info_parts info64
  have hq := fun W => Lib.run_eql_slice_nil (P := Try.prog) W 23 3 A xs.length c 0 0 Try.underlying23
  cases A with
  | none =>
    have hxs : xs = [] := by
      cases xs with
      | nil => rfl
      | cons u r =>
        obtain ⟨b, off, e', _⟩ := hx 0 (.int .i64 u) rfl
        cases e'
    subst hxs
    have hc := hnil rfl
    subst hc
    clear hnil hx
    simp only [Option.isNone_none, List.length_nil] at hq
    show Calls _ _ #[.slice none 0 0] _ _
    go_enter Try.func79, Try.ntmps79
    go_wp2_with fail
    go_ret
    exact RetInts.nil (Below.refl _ _)
  | some ad =>
    have HX := hide ((hx.more hB).below ((Below.refl _ _).alloc (Nat.le_refl _) (.cells #[] 3)))
    have HO := hide (own_empty (w := w) (E := 3))
    have HB : Hid (Below w.heap.size w (w.alloc (.cells #[] 3))) := (by repeat (first | exact Below.refl _ _ | with_reducible assumption | (refine Below.drew ?_) | (refine Below.drewN ?_ _) | (refine Below.alloc ?_ (by simp; try omega) _) | (refine Below.setCell ?_ (by simp; try omega) _)))
    simp only [Option.isNone_some] at hq
    clear hx hnil
    go_enter Try.func79, Try.ntmps79
    go_wp2_with (at_builtin; refine wpList_appR _ rfl (.tmp 5) (.tmp 6) 23 rfl w.heap.size 3 i0 (.int .i64 0) 1 8 Try.underlying23 hi hz0 hz1 hz2 rfl (by decide) _ _ _ _ rfl HX.out ?n0 ?nn oneI _ _ _ rfl HO.out ?n1 ?n2 HB.out.size ?_)
    case n0 => simp
    case nn => intro h; cases h
    case n1 => unfold maxLen; omega
    case n2 => omega
    intro A6 n6 c6 w6 hn6 o6 g6
    have hn6 : n6 = xs.length := by omega
    have HO6 := hide o6
    have HB6 := hide (HB.out.grown g6 HB.out.size (fun k hk => (HO.out.lt k hk).1))
    clear o6 g6
    have HN6 := hide hn6
    clear hn6
    go_wp2_with fail
    go_ret
    exact RetInts.mk HN6.out HO6.out HB6.out
/-- Two own rows that share nothing. -/
def Own2 (w : World) (base : Nat) (S : Option Addr) (cs : Nat) (st : List Int) (C : Option Addr) (cc : Nat) (ca : List Int) : Prop :=
  w.ownsRow base 3 1 (.slice S st.length cs) st.length (ints .i64 st) ∧ w.ownsRow base 3 1 (.slice C ca.length cc) ca.length (ints .i64 ca) ∧ ∀ k, (Value.slice S st.length cs).ownBlock = some k → (Value.slice C ca.length cc).ownBlock ≠ some k
section
variable {w w' : World} {base : Nat} {S C : Option Addr} {cs cc : Nat} {st ca : List Int}
theorem Own2.of_two (h : Two w base S st.length cs (ints .i64 st) C ca.length cc (ints .i64 ca)) : Own2 w base S cs st C cc ca := by
  obtain ⟨b, h1, h2, h3, h4⟩ := h
  refine ⟨h1, own_base h2 h3, fun k hk hc => ?_⟩
  have e1 := h4 k hk
  have e2 := (h2.lt k hc).1
  omega
theorem Own2.call (h : Own2 w base S cs st C cc ca) (hb : Below w.heap.size w w') : Own2 w' base S cs st C cc ca := ⟨own_call hb h.1, own_call hb h.2.1, h.2.2⟩
theorem Own2.down (h : Own2 w base S cs st C cc ca) {b : Nat} (hb : b ≤ base) : Own2 w b S cs st C cc ca := ⟨own_base h.1 hb, own_base h.2.1 hb, h.2.2⟩
theorem Own2.rd (h : Own2 w base S cs st C cc ca) : Rd w w.heap.size S (ints .i64 st) ∧ Rd w w.heap.size C (ints .i64 ca) := ⟨Rd.of_own h.1, Rd.of_own h.2.1⟩
theorem Own2.nil (w : World) (base : Nat) : Own2 w base none 0 [] none 0 [] := ⟨World.ownsRow_nil _ _ _ _, World.ownsRow_nil _ _ _ _, fun k hk => by cases hk⟩
end
/-- What a copy hands back. -/
def Copied (at_ : Int) (st ca : List Int) (w : World) (e : Ending) (w' : World) : Prop := ∃ S C cs cc, e = .returned (.agg #[.int .i64 at_, .slice S st.length cs, .slice C ca.length cc]) ∧ Own2 w' w.heap.size S cs st C cc ca ∧ Below w.heap.size w w'
theorem copy_end {w0 w1 : World} {Y : Nat} (at_ : Int) {S C : Option Addr} {cs cc n m : Nat} {st ca : List Int} (hn : n = st.length) (hm : m = ca.length) (h1 : w1.ownsRow (w0.heap.size) 3 1 (.slice S n cs) n (ints .i64 st)) (h2 : w1.ownsRow w0.heap.size 3 1 (.slice C m cc) m (ints .i64 ca)) (hd : ∀ k, (Value.slice S n cs).ownBlock = some k → (Value.slice C m cc).ownBlock ≠ some k) (B : Below w0.heap.size w0 w1) (hY : Box w1 Y 25 #[.int .i64 0, .slice none 0 0, .slice none 0 0]) (hYw : w0.heap.size ≤ Y) :
    Copied at_ st ca w0 (.returned (.agg #[.int .i64 at_, .slice S n cs, .slice C m cc])) (((w1.setCell ⟨Y, 0, none⟩ (.int .i64 at_)).setCell ⟨Y, 1, none⟩ (.slice S n cs)).setCell ⟨Y, 2, none⟩ (.slice C m cc)) := by
  subst hn hm
  have e1 := own_box h1 hY (by decide)
  have e2 := own_box h2 hY (by decide)
  exact ⟨S, C, cs, cc, rfl, ⟨own_setFar (own_setFar (own_setFar h1 (a := ⟨Y, 0, none⟩) e1 _) (a := ⟨Y, 1, none⟩) e1 _) (a := ⟨Y, 2, none⟩) e1 _, own_setFar (own_setFar (own_setFar h2 (a := ⟨Y, 0, none⟩) e2 _) (a := ⟨Y, 1, none⟩) e2 _) (a := ⟨Y, 2, none⟩) e2 _, hd⟩,
    ((B.setCell (p := ⟨Y, 0, none⟩) hYw _).setCell (p := ⟨Y, 1, none⟩) hYw _).setCell (p := ⟨Y, 2, none⟩) hYw _⟩
theorem copy_cells {w : World} {Y : Nat} {a : Int} {S C : Value} (h : Box w Y 25 #[.int .i64 0, .slice none 0 0, .slice none 0 0]) : (((w.setCell ⟨Y, 0, none⟩ (.int .i64 a)).setCell ⟨Y, 1, none⟩ S).setCell ⟨Y, 2, none⟩ C).cell? ⟨Y, 0, none⟩ = some (.int .i64 a) ∧ (((w.setCell ⟨Y, 0, none⟩ (.int .i64 a)).setCell ⟨Y, 1, none⟩ S).setCell ⟨Y, 2, none⟩ C).cell? ⟨Y, 1, none⟩ = some S ∧ (((w.setCell ⟨Y, 0, none⟩ (.int .i64 a)).setCell ⟨Y, 1, none⟩ S).setCell ⟨Y, 2, none⟩ C).cell? ⟨Y, 2, none⟩ = some C :=
  ⟨(((h.set 0 _).set 1 _).set 2 _).cell 0, (((h.set 0 _).set 1 _).set 2 _).cell 1, (((h.set 0 _).set 1 _).set 2 _).cell 2⟩
theorem three {w w' : World} {a : Nat} {u0 u1 u2 : Value} (hb : Below w.heap.size w w') (ha : a < w.heap.size) (h : w.cell? ⟨a, 0, none⟩ = some u0 ∧ w.cell? ⟨a, 1, none⟩ = some u1 ∧ w.cell? ⟨a, 2, none⟩ = some u2) :
    w'.cell? ⟨a, 0, none⟩ = some u0 ∧ w'.cell? ⟨a, 1, none⟩ = some u1 ∧ w'.cell? ⟨a, 2, none⟩ = some u2 :=
  ⟨(hb.cell ha).trans h.1, (hb.cell ha).trans h.2.1, (hb.cell ha).trans h.2.2⟩
theorem put_far {w : World} {X Y : Nat} {u0 u1 u2 : Value} (hne : X ≠ Y) (a b c : Value) (h : w.cell? ⟨X, 0, none⟩ = some u0 ∧ w.cell? ⟨X, 1, none⟩ = some u1 ∧ w.cell? ⟨X, 2, none⟩ = some u2) :
    (((w.setCell ⟨Y, 0, none⟩ a).setCell ⟨Y, 1, none⟩ b).setCell ⟨Y, 2, none⟩ c).cell? ⟨X, 0, none⟩ = some u0 ∧ (((w.setCell ⟨Y, 0, none⟩ a).setCell ⟨Y, 1, none⟩ b).setCell ⟨Y, 2, none⟩ c).cell? ⟨X, 1, none⟩ = some u1 ∧ (((w.setCell ⟨Y, 0, none⟩ a).setCell ⟨Y, 1, none⟩ b).setCell ⟨Y, 2, none⟩ c).cell? ⟨X, 2, none⟩ = some u2 := by
  have k : ∀ o, (((w.setCell ⟨Y, 0, none⟩ a).setCell ⟨Y, 1, none⟩ b).setCell ⟨Y, 2, none⟩ c).cell? ⟨X, o, none⟩ = w.cell? ⟨X, o, none⟩ := fun o =>
    World.cell?_of_block ((Below.heap_setCell _ ⟨Y, 2, none⟩ c X hne).trans ((Below.heap_setCell _ ⟨Y, 1, none⟩ b X hne).trans (Below.heap_setCell _ ⟨Y, 0, none⟩ a X hne)))
  rw [k, k, k]
  exact h
/-- What the copy's region reads and writes. -/
def SC (X Y : Nat) (a : Int) (S C : Value) (W : World) : Prop := Box W X 25 #[.int .i64 a, S, C] ∧ Box W Y 25 #[.int .i64 0, .slice none 0 0, .slice none 0 0]
set_option maxHeartbeats 2000000 in
theorem copyMachine_any (at_ : Int) (S C : Option Addr) (st ca : List Int) (cs cc : Nat) (w : World) (hs : Rd w w.heap.size S (ints .i64 st)) (hc : Rd w w.heap.size C (ints .i64 ca)) (hsm : st.length ≤ 1048576) (hcm : ca.length ≤ 1048576) (hns : S = none → cs = 0) (hnc : C = none → cc = 0) :
    Calls Try.prog 57 #[.agg #[.int .i64 at_, .slice S st.length cs, .slice C ca.length cc]] w (Copied at_ st ca w) := by
  have a1 := (Box.new w 25 #[.int .i64 at_, .slice S st.length cs, .slice C ca.length cc]).alloc (.cells #[.int .i64 0, .slice none 0 0, .slice none 0 0] 25)
  have a2 := Box.new (w.alloc (.cells #[.int .i64 at_, .slice S st.length cs, .slice C ca.length cc] 25)) 25 #[.int .i64 0, .slice none 0 0, .slice none 0 0]
  have B0 : Below w.heap.size w ((w.alloc (.cells #[.int .i64 at_, .slice S st.length cs, .slice C ca.length cc] 25)).alloc (.cells #[.int .i64 0, .slice none 0 0, .slice none 0 0] 25)) := (by repeat (first | exact Below.refl _ _ | with_reducible assumption | (refine Below.drew ?_) | (refine Below.drewN ?_ _) | (refine Below.alloc ?_ (by simp; try omega) _) | (refine Below.setCell ?_ (by simp; try omega) _)))
  simp only [World.size_alloc] at a2
  have HS := hide ((hs.below B0).more B0.size)
  have HC := hide ((hc.below B0).more B0.size)
  have HB := hide B0
  have z0 : ((w.alloc (.cells #[.int .i64 at_, .slice S st.length cs, .slice C ca.length cc] 25)).alloc (.cells #[.int .i64 0, .slice none 0 0, .slice none 0 0] 25)).heap.size = w.heap.size + 2 := by simp
  have HN := hide (And.intro hns hnc)
  have HSZ := hide z0
  clear hs hc hns hnc B0 z0
  go_enter Try.func57, Try.ntmps57
  go_wp2_with fail
  generalize ((w.alloc (.cells #[.int .i64 at_, .slice S st.length cs, .slice C ca.length cc] 25)).alloc (.cells #[.int .i64 0, .slice none 0 0, .slice none 0 0] 25)) = w0 at *
  have HA := hide (And.intro a1 a2)
  have q0 := a1.cell 0
  have q1 := a1.cell 1
  have q2 := a1.cell 2
  simp only [List.getElem?_toArray, List.getElem?_cons_zero, List.getElem?_cons_succ] at q0 q1 q2
  have Z0 : w0.cell? ⟨w.heap.size, 0, none⟩ = some (.int .i64 at_) ∧ w0.cell? ⟨w.heap.size, 1, none⟩ = some (.slice S st.length cs) ∧ w0.cell? ⟨w.heap.size, 2, none⟩ = some (.slice C ca.length cc) := ⟨q0, q1, q2⟩
  clear a1 a2 q0 q1 q2
  have l0 : w.heap.size < w0.heap.size := HA.out.1.lt
  go_region_held3 (fun (W : World) => W.cell? ⟨w.heap.size, 0, none⟩ = some (.int .i64 at_) ∧ W.cell? ⟨w.heap.size, 1, none⟩ = some (.slice S st.length cs) ∧ W.cell? ⟨w.heap.size, 2, none⟩ = some (.slice C ca.length cc)) (first | exact Z0 | exact Z1 | exact Z2 | exact Z3) (first | (go_at_call 79; refine (clone_any C ca cc w0.heap.size _ (by exact HC.out.below HB1.out) (by exact HB1.out.size) hcm HN.out.2).mono ?_; rintro e w2 ⟨A2, c2, rfl, o2, b2⟩; have HO2 := hide o2; have HB2 := hide b2; have Z2 := three HB2.out (Nat.lt_of_lt_of_le l0 HB1.out.size) Z1; have HY2 := hide ((HA.out.2.call HB1.out).call HB2.out); have HX2 := hide ((HA.out.1.call HB1.out).call HB2.out); have y0 := HY2.out.cell 0; have y1 := HY2.out.cell 1; have y2 := HY2.out.cell 2; have f0 := HY2.out.frozen 0; have f1 := HY2.out.frozen 1; have f2 := HY2.out.frozen 2; simp only [List.getElem?_toArray, List.getElem?_cons_zero, List.getElem?_cons_succ] at y0 y1 y2; have Z3 := put_far (Y := w.heap.size + 1) (Nat.ne_of_lt (Nat.lt_succ_self _)) (.int .i64 at_) (.slice A1 st.length c1) (.slice A2 ca.length c2) Z2; clear o2 b2) | (go_at_call 79; refine (clone_any S st cs w0.heap.size _ (by exact HS.out) (by exact Nat.le_refl _) hsm HN.out.1).mono ?_; rintro e w1 ⟨A1, c1, rfl, o1, b1⟩; have HO1 := hide o1; have HB1 := hide (below_drawn b1); have Z1 := three HB1.out l0 Z0; clear o1 b1))
  have e := copy_cells (a := at_) (S := .slice A1 st.length c1) (C := .slice A2 ca.length c2) HY2.out
  have HE := hide (copy_end at_ rfl rfl (own_base (own_call HB2.out HO1.out) (show w.heap.size ≤ w0.heap.size from HB.out.size)) (own_base HO2.out (Nat.le_trans HB.out.size HB1.out.size)) (fun k hk hc => by have e1 := (HO1.out.lt k hk).2; have e2 := (HO2.out.lt k hc).1; omega) ((HB.out.trans (HB1.out.mono HB.out.size)).trans (HB2.out.mono (HB.out.trans (HB1.out.mono HB.out.size)).size)) HY2.out (Nat.le_succ _))
  obtain ⟨e0, e1, e2⟩ := e
  go_wp2_with fail
  exact bodyPost_ret (v := .agg #[.int .i64 at_, .slice A1 st.length c1, .slice A2 ca.length c2]) (by simp [results, Try.results57, go_sem, e0, e1, e2]) rfl HE.out
/-- Two rows that share nothing. -/
def Rows2 (w : World) (base : Nat) (S : Option Addr) (cs : Nat) (st : List Int) (C : Option Addr) (cc : Nat) (ca : List Int) : Prop :=
  Row w base 3 1 S st.length cs (ints .i64 st) ∧ Row w base 3 1 C ca.length cc (ints .i64 ca) ∧ Apart S cs C cc
def Copied2 (at_ : Int) (st ca : List Int) (w : World) (e : Ending) (w' : World) : Prop := ∃ S C cs cc, e = .returned (.agg #[.int .i64 at_, .slice S st.length cs, .slice C ca.length cc]) ∧ Rows2 w' w.heap.size S cs st C cc ca ∧ Below w.heap.size w w'
theorem copy_end2 {w0 w1 : World} {Y : Nat} (at_ : Int) {S C : Option Addr} {cs cc n m : Nat} {st ca : List Int} (hn : n = 0 + st.length) (hm : m = 0 + ca.length) (h1 : Row w1 w0.heap.size 3 1 S n cs ([] ++ ints .i64 st)) (h2 : Row w1 w0.heap.size 3 1 C m cc ([] ++ ints .i64 ca)) (hd : Apart S cs C cc) (B : Below w0.heap.size w0 w1) (hY : Box w1 Y 25 #[.int .i64 0, .slice none 0 0, .slice none 0 0]) (hYw : w0.heap.size ≤ Y) :
    Copied2 at_ st ca w0 (.returned (.agg #[.int .i64 at_, .slice S n cs, .slice C m cc])) (((w1.setCell ⟨Y, 0, none⟩ (.int .i64 at_)).setCell ⟨Y, 1, none⟩ (.slice S n cs)).setCell ⟨Y, 2, none⟩ (.slice C m cc)) := by
  rw [Nat.zero_add] at hn hm
  subst hn hm
  have e1 := h1.box hY (by decide)
  have e2 := h2.box hY (by decide)
  exact ⟨S, C, cs, cc, rfl, ⟨((h1.set (a := ⟨Y, 0, none⟩) e1 _).set (a := ⟨Y, 1, none⟩) e1 _).set (a := ⟨Y, 2, none⟩) e1 _, ((h2.set (a := ⟨Y, 0, none⟩) e2 _).set (a := ⟨Y, 1, none⟩) e2 _).set (a := ⟨Y, 2, none⟩) e2 _, hd⟩,
    ((B.setCell (p := ⟨Y, 0, none⟩) hYw _).setCell (p := ⟨Y, 1, none⟩) hYw _).setCell (p := ⟨Y, 2, none⟩) hYw _⟩
set_option maxHeartbeats 4000000 in
theorem l30Copy_any (at_ : Int) (S C : Option Addr) (st ca : List Int) (cs cc : Nat) (w : World) (hs : Rd w w.heap.size S (ints .i64 st)) (hc : Rd w w.heap.size C (ints .i64 ca)) (hsm : st.length ≤ 1048576) (hcm : ca.length ≤ 1048576) (hns : S = none → cs = 0) (hnc : C = none → cc = 0) :
    Calls Try.prog 53 #[.agg #[.int .i64 at_, .slice S st.length cs, .slice C ca.length cc]] w (Copied2 at_ st ca w) := by
  obtain ⟨i0, hi, hz0, hz1, hz2⟩ := info_parts info64
  have a1 := (Box.new w 25 #[.int .i64 at_, .slice S st.length cs, .slice C ca.length cc]).alloc (.cells #[.int .i64 0, .slice none 0 0, .slice none 0 0] 25)
  have a2 := Box.new (w.alloc (.cells #[.int .i64 at_, .slice S st.length cs, .slice C ca.length cc] 25)) 25 #[.int .i64 0, .slice none 0 0, .slice none 0 0]
  have B0 : Below w.heap.size w ((w.alloc (.cells #[.int .i64 at_, .slice S st.length cs, .slice C ca.length cc] 25)).alloc (.cells #[.int .i64 0, .slice none 0 0, .slice none 0 0] 25)) := (by repeat (first | exact Below.refl _ _ | with_reducible assumption | (refine Below.drew ?_) | (refine Below.drewN ?_ _) | (refine Below.alloc ?_ (by simp; try omega) _) | (refine Below.setCell ?_ (by simp; try omega) _)))
  simp only [World.size_alloc] at a2
  have HS := hide ((hs.below B0).more B0.size)
  have HC := hide ((hc.below B0).more B0.size)
  have HB := hide B0
  have HN := hide (And.intro hns hnc)
  have hl1 : (ints .i64 st).length = st.length * 1 := by simp
  have hl2 : (ints .i64 ca).length = ca.length * 1 := by simp
  have HL := hide (And.intro hl1 hl2)
  have hm1 : 0 + st.length ≤ maxLen := by unfold maxLen; omega
  have hm2 : 0 + ca.length ≤ maxLen := by unfold maxLen; omega
  have hm3 : (0 + st.length) * 8 ≤ 140737488355328 := by omega
  have hm4 : (0 + ca.length) * 8 ≤ 140737488355328 := by omega
  have HM := hide (And.intro (And.intro hm1 hm2) (And.intro hm3 hm4))
  clear hs hc hns hnc B0 hl1 hl2 hm1 hm2 hm3 hm4
  go_enter Try.func53, Try.ntmps53
  go_wp2_with fail
  generalize ((w.alloc (.cells #[.int .i64 at_, .slice S st.length cs, .slice C ca.length cc] 25)).alloc (.cells #[.int .i64 0, .slice none 0 0, .slice none 0 0] 25)) = w0 at *
  have HA := hide (And.intro a1 a2)
  have q0 := a1.cell 0
  have q1 := a1.cell 1
  have q2 := a1.cell 2
  simp only [List.getElem?_toArray, List.getElem?_cons_zero, List.getElem?_cons_succ] at q0 q1 q2
  have Z0 : w0.cell? ⟨w.heap.size, 0, none⟩ = some (.int .i64 at_) ∧ w0.cell? ⟨w.heap.size, 1, none⟩ = some (.slice S st.length cs) ∧ w0.cell? ⟨w.heap.size, 2, none⟩ = some (.slice C ca.length cc) := ⟨q0, q1, q2⟩
  clear a1 a2 q0 q1 q2
  have l0 : w.heap.size < w0.heap.size := HA.out.1.lt
  go_region_held3 (fun (W : World) => W.cell? ⟨w.heap.size, 0, none⟩ = some (.int .i64 at_) ∧ W.cell? ⟨w.heap.size, 1, none⟩ = some (.slice S st.length cs) ∧ W.cell? ⟨w.heap.size, 2, none⟩ = some (.slice C ca.length cc)) (first | (refine three (w := w0) ?_ l0 Z0; (repeat (first | with_reducible assumption | with_reducible exact Below.refl _ _ | with_reducible apply below_al | with_reducible apply below_dr | with_reducible apply below_dn)); done) | (refine put_far (Y := w.heap.size + 1) (Nat.ne_of_lt (Nat.lt_succ_self _)) _ _ _ ?_; refine three (w := w0) ?_ l0 Z0; (repeat (first | with_reducible assumption | with_reducible exact Below.refl _ _ | with_reducible apply below_al | with_reducible apply below_dr | with_reducible apply below_dn)); done)) (first | (refine step_app (by rfl) _ _ 23 (by rfl) 3 i0 (.int .i64 0) 1 8 Try.underlying23 hi hz0 hz1 hz2 rfl (by decide) w.heap.size _ 0 0 [] (by rfl) (Row.empty _ _ _ _ _) (Nat.le_trans HB.out.size (Below.size (B := w0.heap.size) (w := w0) (by (repeat (first | with_reducible assumption | with_reducible exact Below.refl _ _ | with_reducible apply below_al | with_reducible apply below_dr | with_reducible apply below_dn)); done))) S st.length cs (ints .i64 st) ?hx (Rd.below HS.out (by (repeat (first | with_reducible assumption | with_reducible exact Below.refl _ _ | with_reducible apply below_al | with_reducible apply below_dr | with_reducible apply below_dn)); done)) HL.out.1 HN.out.1 oneI HM.out.1.1 HM.out.2.1 ?_; (case hx => with_unfolding_all rfl); intro A1 n1 c1 w1 hn1 o1 g1 k1; have b1 : Below w0.heap.size w0 w1 := below_tr (by (repeat (first | with_reducible assumption | with_reducible exact Below.refl _ _ | with_reducible apply below_al | with_reducible apply below_dr | with_reducible apply below_dn)); done) g1; have Y1 := HA.out.2.call b1; have HR1 := hide (And.intro hn1 (And.intro o1 (And.intro k1 g1))); have y0 := Y1.cell 0; have y1 := Y1.cell 1; have y2 := Y1.cell 2; have f0 := Y1.frozen 0; have f1 := Y1.frozen 1; have f2 := Y1.frozen 2; simp only [List.getElem?_toArray, List.getElem?_cons_zero, List.getElem?_cons_succ] at y0 y1 y2; clear hn1 o1 g1 k1 Y1) | (refine step_app (by rfl) _ _ 23 (by rfl) 3 i0 (.int .i64 0) 1 8 Try.underlying23 hi hz0 hz1 hz2 rfl (by decide) w.heap.size _ 0 0 [] (by rfl) (Row.empty _ _ _ _ _) (Nat.le_trans HB.out.size (Below.size (B := w0.heap.size) (w := w0) (by (repeat (first | with_reducible assumption | with_reducible exact Below.refl _ _ | with_reducible apply below_al | with_reducible apply below_dr | with_reducible apply below_dn)); done))) C ca.length cc (ints .i64 ca) ?hx (Rd.below HC.out (by (repeat (first | with_reducible assumption | with_reducible exact Below.refl _ _ | with_reducible apply below_al | with_reducible apply below_dr | with_reducible apply below_dn)); done)) HL.out.2 HN.out.2 oneI HM.out.1.2 HM.out.2.2 ?_; (case hx => with_unfolding_all rfl); intro A2 n2 c2 w2 hn2 o2 g2 k2; have b2 : Below w0.heap.size w0 w2 := below_tr (by (repeat (first | with_reducible assumption | with_reducible exact Below.refl _ _ | with_reducible apply below_al | with_reducible apply below_dr | with_reducible apply below_dn)); done) g2; have Y2 := HA.out.2.call b2; have HR2 := hide (And.intro hn2 (And.intro o2 (And.intro k2 g2))); have y0 := Y2.cell 0; have y1 := Y2.cell 1; have y2 := Y2.cell 2; have f0 := Y2.frozen 0; have f1 := Y2.frozen 1; have f2 := Y2.frozen 2; simp only [List.getElem?_toArray, List.getElem?_cons_zero, List.getElem?_cons_succ] at y0 y1 y2; clear hn2 o2 g2 k2 Y2))
  all_goals
    first
    | (refine lay (p := Below w1.heap.size w1 w2) (by refine below_tr ?_ HR2.out.2.2.2; (repeat (first | with_reducible assumption | with_reducible exact Below.refl _ _ | with_reducible apply below_al | with_reducible apply below_dr | with_reducible apply below_dn)); done) fun T => ?_
       have F := hide (copy_end2 (w0 := w) at_ HR1.out.1 HR2.out.1 (HR1.out.2.1.call T) HR2.out.2.1 (apart_of (fun k hk => (HR1.out.2.1.lt k hk).2) HR2.out.2.2.1 (by simp; try omega)) (HB.out.trans (b2.mono HB.out.size)) (HA.out.2.call b2) (Nat.le_succ _))
       obtain ⟨e0, e1, e2⟩ := copy_cells (a := at_) (S := .slice A1 n1 c1) (C := .slice A2 n2 c2) (HA.out.2.call b2))
    | (refine lay (p := Below w2.heap.size w2 w1) (by refine below_tr ?_ HR1.out.2.2.2; (repeat (first | with_reducible assumption | with_reducible exact Below.refl _ _ | with_reducible apply below_al | with_reducible apply below_dr | with_reducible apply below_dn)); done) fun T => ?_
       have F := hide (copy_end2 (w0 := w) at_ HR1.out.1 HR2.out.1 HR1.out.2.1 (HR2.out.2.1.call T) (apart_of (fun k hk => (HR2.out.2.1.lt k hk).2) HR1.out.2.2.1 (by simp; try omega)).symm (HB.out.trans (b1.mono HB.out.size)) (HA.out.2.call b1) (Nat.le_succ _))
       obtain ⟨e0, e1, e2⟩ := copy_cells (a := at_) (S := .slice A1 n1 c1) (C := .slice A2 n2 c2) (HA.out.2.call b1))
  all_goals
    clear HR1 HR2 y0 y1 y2 f0 f1 f2
    try simp only [List.getElem_toArray, List.getElem_cons_succ, List.getElem_cons_zero, Act.put, List.setIfInBounds_toArray, List.set_cons_zero, List.set_cons_succ]
    go_wp2_with fail
    exact bodyPost_ret (v := .agg #[.int .i64 at_, .slice A1 n1 c1, .slice A2 n2 c2]) (by simp [results, Try.results53, go_sem, e0, e1, e2]) rfl F.out
end Go.Proofs.Ytjnnjgogpapbhaa.CStep
