/- Contract of StepMachine, the program's. -/
import Derived.Test.YtjnnjgogpapbhaaCDo2
import Derived.Test.YtjnnjgogpapbhaaCDo3
namespace Go.Proofs.Ytjnnjgogpapbhaa.CStepI
set_option maxRecDepth 200000
open Go.ChangeShapes Go.WideShapes Go.ChangeAt Go.RowKit Kit CCode CMachine CMachines CInts CPutCode CStep CDo CDo2 CDo3
theorem do_any (w : World) (base X : Nat) (n d a : Int) (S C : Option Addr) (cs cc : Nat) (st ca : List Int) (h : MM w base X n S cs st C cc ca) (l1 : st.length ≤ 8) (l2 : ca.length ≤ 8) (hbw : base ≤ w.heap.size) (hin : InR 0 65535 st) (d1 : 1 ≤ d) (d2 : d ≤ 7) :
    Calls Try.prog 58 #[.pointer (some ⟨X, 0, none⟩), .agg #[.int .i64 d, .int .i64 a]] w (DoPost w base X (doM n st ca d a)) := by
  have hd : d = 1 ∨ d = 2 ∨ d = 3 ∨ d = 4 ∨ d = 5 ∨ d = 6 ∨ d = 7 := by omega
  rcases hd with rfl | rfl | rfl | rfl | rfl | rfl | rfl
  · exact do_push w base X n a S C cs cc st ca h l1 l2 hbw
  · by_cases hl : 2 ≤ st.length
    · exact do_add w base X n a S C cs cc st ca h l1 l2 hbw hin hl
    · exact do_add_no w base X n a S C cs cc st ca h l1 l2 hbw hl
  · by_cases hl : 2 ≤ st.length
    · exact do_sub w base X n a S C cs cc st ca h l1 l2 hbw hin hl
    · exact do_sub_no w base X n a S C cs cc st ca h l1 l2 hbw hl
  · exact do_jump w base X n a S C cs cc st ca h l1 l2 hbw
  · by_cases hl : 1 ≤ st.length
    · exact do_zero w base X n a S C cs cc st ca h l1 l2 hbw hl
    · exact do_zero_no w base X n a S C cs cc st ca h l1 l2 hbw hl
  · exact do_call w base X n a S C cs cc st ca h l1 l2 hbw
  · by_cases hl : 1 ≤ ca.length
    · exact do_return w base X n a S C cs cc st ca h l1 l2 hbw hl
    · exact do_return_no w base X n a S C cs cc st ca h l1 l2 hbw hl
/-- A machine behind a step, and how it ended. -/
def stepR (a : Int) (st ca : List Int) (g : Int × Int × Int) : Int × List Int × List Int × Int :=
  if g.2.2 < 0 then (a, st, ca, 2) else if g.1 = 0 then (a, st, ca, 1) else
    match doM g.2.2 st ca g.1 g.2.1 with
    | some (n, s, c) => (n, s, c, 0)
    | none => (a, st, ca, 2)
def stepM (a : Int) (st ca zs : List Int) : Int × List Int × List Int × Int := if machOk a st ca then stepR a st ca (gcode zs a) else (0, [], [], 2)
def SteppedM (r : Int × List Int × List Int × Int) (w : World) (e : Ending) (w' : World) : Prop :=
  ∃ S C cs cc, e = .returned (.tuple #[.agg #[.int .i64 r.1, .slice S r.2.1.length cs, .slice C r.2.2.1.length cc], .int .i64 r.2.2.2]) ∧ Rows2 w' w.heap.size S cs r.2.1 C cc r.2.2.1 ∧ Below w.heap.size w w'
theorem rows2_of_own {w : World} {base : Nat} {S C : Option Addr} {cs cc : Nat} {st ca : List Int} (h : Own2 w base S cs st C cc ca) : Rows2 w base S cs st C cc ca := by
  refine ⟨.inr h.1, .inr h.2.1, fun k hk hk' => ?_⟩
  have e : ∀ {A : Option Addr} {n c k : Nat}, blk A c = some k → (Value.slice A n c).ownBlock = some k := fun {A n c k} hb => by
    unfold blk at hb
    split at hb
    · cases hb
    · cases A with
      | none => cases hb
      | some a => simpa [Value.ownBlock] using hb
  exact h.2.2 k (e hk) (e hk')
theorem machOk_bd {a : Int} {st ca : List Int} (h : machOk a st ca = true) : 0 ≤ a ∧ st.length ≤ 8 ∧ ca.length ≤ 8 ∧ InR 0 65535 st := by
  simp only [machOk, Bool.and_eq_true, decide_eq_true_eq, Bool.not_eq_true'] at h
  obtain ⟨⟨⟨⟨h1, h2⟩, h3⟩, h4⟩, _⟩ := h
  refine ⟨h1, h2, h3, fun x hx => ?_⟩
  have := List.any_eq_false.1 h4 x hx
  simpa [inB] using this
theorem gcode_bd (zs : List Int) (a : Int) (h : 0 ≤ (gcode zs a).2.2) : codeOk (gcode zs a).1 (gcode zs a).2.1 = true := by
  unfold gcode at h ⊢
  split at h
  · split at h
    · split at h
      · rename_i h1 h2 h3
        rw [if_pos h1, if_pos h2, if_pos h3]
        exact h3
      · exact absurd h (by decide)
    · split at h
      · rename_i h1 h2 h3
        rw [if_pos h1, if_neg h2, if_pos h3]
        exact h3
      · exact absurd h (by decide)
  · exact absurd h (by decide)
/-- Three cells of a struct variable are written. -/
def put3 (w : World) (Y : Nat) (a b c : Value) : World := ((w.setCell ⟨Y, 0, none⟩ a).setCell ⟨Y, 1, none⟩ b).setCell ⟨Y, 2, none⟩ c
theorem put3_box {w : World} {Y : Nat} {t : TypeId} {u0 u1 u2 : Value} (h : Box w Y t #[u0, u1, u2]) (a b c : Value) : Box (((w.setCell ⟨Y, 0, none⟩ a).setCell ⟨Y, 1, none⟩ b).setCell ⟨Y, 2, none⟩ c) Y t #[a, b, c] := ((h.set 0 a).set 1 b).set 2 c
theorem put3_row {w : World} {Y base : Nat} {e : TypeId} {size n cc : Nat} {A : Option Addr} {xs : List Value} {t : TypeId} {u : Array Value} (h : Row w base e size A n cc xs) (hb : Box w Y t u) (hne : e ≠ t) (a b c : Value) : Row (((w.setCell ⟨Y, 0, none⟩ a).setCell ⟨Y, 1, none⟩ b).setCell ⟨Y, 2, none⟩ c) base e size A n cc xs :=
  ((h.set (a := ⟨Y, 0, none⟩) (h.box hb hne) _).set (a := ⟨Y, 1, none⟩) (h.box hb hne) _).set (a := ⟨Y, 2, none⟩) (h.box hb hne) _
theorem put3_below {B : Nat} {a w : World} {Y : Nat} (h : Below B a w) (hY : B ≤ Y) (u v x : Value) : Below B a (((w.setCell ⟨Y, 0, none⟩ u).setCell ⟨Y, 1, none⟩ v).setCell ⟨Y, 2, none⟩ x) :=
  ((h.setCell (p := ⟨Y, 0, none⟩) hY u).setCell (p := ⟨Y, 1, none⟩) hY v).setCell (p := ⟨Y, 2, none⟩) hY x
theorem stepM_end {w w1 : World} {Y : Nat} {n r : Int} {S C : Option Addr} {cs cc : Nat} {st ca : List Int} (h : Rows2 w1 w.heap.size S cs st C cc ca) (B : Below w.heap.size w w1) (hY : Box w1 Y 25 #[.int .i64 0, .slice none 0 0, .slice none 0 0]) (hYw : w.heap.size ≤ Y) :
    SteppedM (n, st, ca, r) w (.returned (.tuple #[.agg #[.int .i64 n, .slice S st.length cs, .slice C ca.length cc], .int .i64 r])) (((w1.setCell ⟨Y, 0, none⟩ (.int .i64 n)).setCell ⟨Y, 1, none⟩ (.slice S st.length cs)).setCell ⟨Y, 2, none⟩ (.slice C ca.length cc)) :=
  ⟨S, C, cs, cc, rfl, ⟨put3_row h.1 hY (by decide) _ _ _, put3_row h.2.1 hY (by decide) _ _ _, h.2.2⟩, put3_below B hYw _ _ _⟩
set_option maxHeartbeats 4000000 in
theorem stepMachine_any (at_ : Int) (S C A : Option Addr) (st ca zs : List Int) (cs cc c : Nat) (w : World) (hs : Rd w w.heap.size S (ints .i64 st)) (hc : Rd w w.heap.size C (ints .i64 ca)) (hr : Rd w w.heap.size A (ints .u8 zs)) (hz : InR 0 255 zs) (hsm : st.length ≤ 1048576) (hcm : ca.length ≤ 1048576) (hzm : zs.length ≤ 1048576) (hns : S = none → cs = 0) (hnc : C = none → cc = 0) :
    Calls Try.prog 26 #[.agg #[.int .i64 at_, .slice S st.length cs, .slice C ca.length cc], .slice A zs.length c] w (SteppedM (stepM at_ st ca zs) w) := by
  have a1 := (Box.new w 25 #[.int .i64 at_, .slice S st.length cs, .slice C ca.length cc]).alloc (.cells #[.int .i64 0, .slice none 0 0, .slice none 0 0] 25)
  have a2 := Box.new (w.alloc (.cells #[.int .i64 at_, .slice S st.length cs, .slice C ca.length cc] 25)) 25 #[.int .i64 0, .slice none 0 0, .slice none 0 0]
  have B0 : Below w.heap.size w ((w.alloc (.cells #[.int .i64 at_, .slice S st.length cs, .slice C ca.length cc] 25)).alloc (.cells #[.int .i64 0, .slice none 0 0, .slice none 0 0] 25)) := (by repeat (first | exact Below.refl _ _ | with_reducible assumption | (refine Below.drew ?_) | (refine Below.drewN ?_ _) | (refine Below.alloc ?_ (by simp; try omega) _) | (refine Below.setCell ?_ (by simp; try omega) _)))
  simp only [World.size_alloc] at a2
  have HR := hide (And.intro hs (And.intro hc hr))
  have HN := hide (And.intro hns hnc)
  have HZ := hide hz
  have HB := hide B0
  have hsm' : st.length ≤ maxLen := by unfold maxLen; omega
  have hcm' : ca.length ≤ maxLen := by unfold maxLen; omega
  have HM := hide (And.intro hsm' hcm')
  have HV := hide (fun W h h' => machineValid_any at_ S C st ca cs cc 0 0 W h h' hsm' hcm')
  have HC := hide (fun W h h' => copyMachine_any at_ S C st ca cs cc W h h' hsm hcm hns hnc)
  clear hs hc hr hns hnc hz B0 hsm' hcm'
  go_enter Try.func26, Try.ntmps26
  go_wp2_with fail
  generalize ((w.alloc (.cells #[.int .i64 at_, .slice S st.length cs, .slice C ca.length cc] 25)).alloc (.cells #[.int .i64 0, .slice none 0 0, .slice none 0 0] 25)) = w0 at *
  have HA := hide (And.intro a1 a2)
  clear a1 a2
  refine (HV.out _ ((HR.out.1.below HB.out).more HB.out.size) ((HR.out.2.1.below HB.out).more HB.out.size)).mono ?_
  rintro e w1 ⟨rfl, b1⟩
  have HA1 := hide (And.intro (HA.out.1.call b1) (HA.out.2.call b1))
  have HB1 := hide (HB.out.trans (b1.mono HB.out.size))
  clear b1 HA HB
  cases hv : machOk at_ st ca
  · have HE := hide (show stepM at_ st ca zs = (0, [], [], 2) by unfold stepM; rw [hv]; rfl)
    clear hv
    have y0 := HA1.out.2.cell 0
    have y1 := HA1.out.2.cell 1
    have y2 := HA1.out.2.cell 2
    have f0 := HA1.out.2.frozen 0
    have f1 := HA1.out.2.frozen 1
    have f2 := HA1.out.2.frozen 2
    simp only [List.getElem?_toArray, List.getElem?_cons_zero, List.getElem?_cons_succ] at y0 y1 y2
    have HF := hide (stepM_end (w := w) (w1 := w1) (n := 0) (r := 2) (S := none) (C := none) (cs := 0) (cc := 0) (st := []) (ca := []) ⟨Row.empty _ _ _ _ _, Row.empty _ _ _ _ _, fun k hk => by cases hk⟩ HB1.out HA1.out.2 (Nat.le_succ _))
    have Z := put3_box HA1.out.2 (.int .i64 0) (.slice none 0 0) (.slice none 0 0)
    have e0 := Z.cell 0
    have e1 := Z.cell 1
    have e2 := Z.cell 2
    simp only [List.getElem?_toArray, List.getElem?_cons_zero, List.getElem?_cons_succ] at e0 e1 e2
    clear Z
    go_wp2_with fail
    rw [HE.out]
    exact bodyPost_ret (v := .tuple #[.agg #[.int .i64 0, .slice none 0 0, .slice none 0 0], .int .i64 2]) (by simp [results, Try.results26, go_sem, e0, e1, e2]) rfl HF.out
  · have HK := hide (machOk_bd hv)
    have HE := hide (show stepM at_ st ca zs = stepR at_ st ca (gcode zs at_) by unfold stepM; rw [hv]; rfl)
    have HG := hide (gcode_bd zs at_)
    clear hv
    have q0 := HA1.out.1.cell 0
    have q1 := HA1.out.1.cell 1
    have q2 := HA1.out.1.cell 2
    simp only [List.getElem?_toArray, List.getElem?_cons_zero, List.getElem?_cons_succ] at q0 q1 q2
    go_wp2_with fail
    refine (getCode_any A zs c at_ w1 ((HR.out.2.2.below HB1.out).more HB1.out.size) HZ.out hzm).mono ?_
    rintro e w2 ⟨rfl, b2⟩
    generalize gcode zs at_ = G at *
    obtain ⟨d, a, nx⟩ := G
    simp only [gval]
    have b3 : Below w1.heap.size w1 (w2.alloc (.cells #[.int .i64 d, .int .i64 a] 78)) := b2.alloc b2.size _
    have HX3 := hide (Box.new w2 78 #[.int .i64 d, .int .i64 a])
    have HA3 := hide (And.intro (HA1.out.1.call b3) (HA1.out.2.call b3))
    have HB3 := hide (HB1.out.trans (b3.mono HB1.out.size))
    have hz3 : w2.heap.size < (w2.alloc (.cells #[.int .i64 d, .int .i64 a] 78)).heap.size := by simp
    have hz4 := b2.size
    clear b2 b3 HA1 q0 q1 q2
    have q0 := HA3.out.1.cell 0
    have q1 := HA3.out.1.cell 1
    have q2 := HA3.out.1.cell 2
    simp only [List.getElem?_toArray, List.getElem?_cons_zero, List.getElem?_cons_succ] at q0 q1 q2
    have x0 := HX3.out.cell 0
    have x1 := HX3.out.cell 1
    simp only [List.getElem?_toArray, List.getElem?_cons_zero, List.getElem?_cons_succ] at x0 x1
    by_cases hn : nx < 0
    · have HE2 := hide (show stepM at_ st ca zs = (at_, st, ca, 2) by rw [HE.out, stepR, if_pos hn])
      go_wp2_with fail
      generalize (w2.alloc (.cells #[.int .i64 d, .int .i64 a] 78)) = w3 at *
      refine (HC.out _ ((HR.out.1.below HB3.out).more HB3.out.size) ((HR.out.2.1.below HB3.out).more HB3.out.size)).mono ?_
      rintro e w8 ⟨S8, C8, cs8, cc8, rfl, O8, b8⟩
      have HA8 := hide (And.intro (HA3.out.1.call b8) (HA3.out.2.call b8))
      have HF := hide (stepM_end (n := at_) (r := 2) (rows2_of_own (O8.down HB3.out.size)) (HB3.out.trans (b8.mono HB3.out.size)) HA8.out.2 (Nat.le_succ _))
      clear O8 b8
      have y0 := HA8.out.2.cell 0
      have y1 := HA8.out.2.cell 1
      have y2 := HA8.out.2.cell 2
      simp only [List.getElem?_toArray, List.getElem?_cons_zero, List.getElem?_cons_succ] at y0 y1 y2
      have f0 := HA8.out.2.frozen 0
      have f1 := HA8.out.2.frozen 1
      have f2 := HA8.out.2.frozen 2
      have Z8 := put3_box HA8.out.2 (.int .i64 at_) (.slice S8 st.length cs8) (.slice C8 ca.length cc8)
      have e0 := Z8.cell 0
      have e1 := Z8.cell 1
      have e2 := Z8.cell 2
      simp only [List.getElem?_toArray, List.getElem?_cons_zero, List.getElem?_cons_succ] at e0 e1 e2
      clear Z8
      go_wp2_with fail
      rw [HE2.out]
      exact bodyPost_ret (v := .tuple #[.agg #[.int .i64 at_, .slice S8 st.length cs8, .slice C8 ca.length cc8], .int .i64 2]) (by simp [results, Try.results26, go_sem, e0, e1, e2]) rfl HF.out
    · have hn' : decide (nx < 0) = false := by simpa using hn
      by_cases h0 : d = 0
      · subst h0
        have HE2 := hide (show stepM at_ st ca zs = (at_, st, ca, 1) by rw [HE.out, stepR, if_neg hn, if_pos rfl])
        clear hn
        go_wp2_with fail
        generalize (w2.alloc (.cells #[.int .i64 0, .int .i64 a] 78)) = w3 at *
        refine (HC.out _ ((HR.out.1.below HB3.out).more HB3.out.size) ((HR.out.2.1.below HB3.out).more HB3.out.size)).mono ?_
        rintro e w8 ⟨S8, C8, cs8, cc8, rfl, O8, b8⟩
        have HA8 := hide (And.intro (HA3.out.1.call b8) (HA3.out.2.call b8))
        have HF := hide (stepM_end (n := at_) (r := 1) (rows2_of_own (O8.down HB3.out.size)) (HB3.out.trans (b8.mono HB3.out.size)) HA8.out.2 (Nat.le_succ _))
        clear O8 b8
        have y0 := HA8.out.2.cell 0
        have y1 := HA8.out.2.cell 1
        have y2 := HA8.out.2.cell 2
        simp only [List.getElem?_toArray, List.getElem?_cons_zero, List.getElem?_cons_succ] at y0 y1 y2
        have f0 := HA8.out.2.frozen 0
        have f1 := HA8.out.2.frozen 1
        have f2 := HA8.out.2.frozen 2
        have Z8 := put3_box HA8.out.2 (.int .i64 at_) (.slice S8 st.length cs8) (.slice C8 ca.length cc8)
        have e0 := Z8.cell 0
        have e1 := Z8.cell 1
        have e2 := Z8.cell 2
        simp only [List.getElem?_toArray, List.getElem?_cons_zero, List.getElem?_cons_succ] at e0 e1 e2
        clear Z8
        go_wp2_with fail
        rw [HE2.out]
        exact bodyPost_ret (v := .tuple #[.agg #[.int .i64 at_, .slice S8 st.length cs8, .slice C8 ca.length cc8], .int .i64 1]) (by simp [results, Try.results26, go_sem, e0, e1, e2]) rfl HF.out
      · have HE2 := hide (show stepM at_ st ca zs = (match doM nx st ca d a with | some (n, s, c) => (n, s, c, (0 : Int)) | none => (at_, st, ca, (2 : Int))) by rw [HE.out, stepR, if_neg hn, if_neg h0])
        have hok := HG.out (Int.not_lt.1 hn)
        have hd' : (d == 0) = false := by simpa using h0
        have hdb : 1 ≤ d ∧ d ≤ 7 := by
          simp only [codeOk, decide_eq_true_eq] at hok
          omega
        clear hn h0 hok
        go_wp2_with fail
        generalize (w2.alloc (.cells #[.int .i64 d, .int .i64 a] 78)) = w3 at *
        refine (HC.out _ ((HR.out.1.below HB3.out).more HB3.out.size) ((HR.out.2.1.below HB3.out).more HB3.out.size)).mono ?_
        rintro e w4 ⟨S4, C4, cs4, cc4, rfl, O4, b4⟩
        have b5 : Below w3.heap.size w3 (w4.alloc (.cells #[.int .i64 nx, .slice S4 st.length cs4, .slice C4 ca.length cc4] 25)) := b4.alloc b4.size _
        have HA5 := hide (And.intro (HA3.out.1.call b5) (HA3.out.2.call b5))
        have HX5 := hide (HX3.out.call b5)
        have HB5 := hide (HB3.out.trans (b5.mono HB3.out.size))
        have ho := rows2_of_own (O4.call ((Below.refl _ _).alloc (Nat.le_refl _) (.cells #[.int .i64 nx, .slice S4 st.length cs4, .slice C4 ca.length cc4] 25)))
        have hm := Box.new w4 25 #[.int .i64 nx, .slice S4 st.length cs4, .slice C4 ca.length cc4]
        have HM5 := hide (show MM (w4.alloc (.cells #[.int .i64 nx, .slice S4 st.length cs4, .slice C4 ca.length cc4] 25)) w3.heap.size w4.heap.size nx S4 cs4 st C4 cc4 ca from ⟨hm, ho, b4.size⟩)
        have HB35 := hide b5
        have HX4 := hide (HX3.out.call b4)
        have hTV : w2.heap.size < w4.heap.size := HX4.out.lt
        have hV : w4.heap.size < (w4.alloc (.cells #[.int .i64 nx, .slice S4 st.length cs4, .slice C4 ca.length cc4] 25)).heap.size := by simp
        have hzz := b4.size
        clear ho hm O4 b4 b5 HX3 q0 q1 q2 x0 x1
        have x0 := HX4.out.cell 0
        have x1 := HX4.out.cell 1
        simp only [List.getElem?_toArray, List.getElem?_cons_zero, List.getElem?_cons_succ] at x0 x1
        go_wp2_with fail
        generalize (w4.alloc (.cells #[.int .i64 nx, .slice S4 st.length cs4, .slice C4 ca.length cc4] 25)) = w5 at *
        refine (do_any w5 w3.heap.size w4.heap.size nx d a S4 C4 cs4 cc4 st ca HM5.out HK.out.2.1 HK.out.2.2.1 HB35.out.size HK.out.2.2.2 hdb.1 hdb.2).mono ?_
        rintro e w6 ⟨rfl, b6, hp⟩
        have HB36 := hide (HB35.out.trans b6)
        have HA6 := hide (And.intro (HA3.out.1.call HB36.out) (HA3.out.2.call HB36.out))
        have HB6 := hide (HB3.out.trans (HB36.out.mono HB3.out.size))
        have HP := hide hp
        clear b6 hp x0 x1
        cases hdo : doM nx st ca d a with
        | none =>
          have HE3 := hide (show stepM at_ st ca zs = (at_, st, ca, 2) by rw [HE2.out, hdo])
          clear hdo
          have q0 := HA6.out.1.cell 0
          have q1 := HA6.out.1.cell 1
          have q2 := HA6.out.1.cell 2
          simp only [List.getElem?_toArray, List.getElem?_cons_zero, List.getElem?_cons_succ] at q0 q1 q2
          go_wp2_with fail
          refine (HC.out _ ((HR.out.1.below HB6.out).more HB6.out.size) ((HR.out.2.1.below HB6.out).more HB6.out.size)).mono ?_
          rintro e w8 ⟨S8, C8, cs8, cc8, rfl, O8, b8⟩
          have HA8 := hide (And.intro (HA6.out.1.call b8) (HA6.out.2.call b8))
          have HF := hide (stepM_end (n := at_) (r := 2) (rows2_of_own (O8.down HB6.out.size)) (HB6.out.trans (b8.mono HB6.out.size)) HA8.out.2 (Nat.le_succ _))
          clear O8 b8
          have y0 := HA8.out.2.cell 0
          have y1 := HA8.out.2.cell 1
          have y2 := HA8.out.2.cell 2
          simp only [List.getElem?_toArray, List.getElem?_cons_zero, List.getElem?_cons_succ] at y0 y1 y2
          have f0 := HA8.out.2.frozen 0
          have f1 := HA8.out.2.frozen 1
          have f2 := HA8.out.2.frozen 2
          have Z8 := put3_box HA8.out.2 (.int .i64 at_) (.slice S8 st.length cs8) (.slice C8 ca.length cc8)
          have e0 := Z8.cell 0
          have e1 := Z8.cell 1
          have e2 := Z8.cell 2
          simp only [List.getElem?_toArray, List.getElem?_cons_zero, List.getElem?_cons_succ] at e0 e1 e2
          clear Z8
          go_wp2_with fail
          rw [HE3.out]
          exact bodyPost_ret (v := .tuple #[.agg #[.int .i64 at_, .slice S8 st.length cs8, .slice C8 ca.length cc8], .int .i64 2]) (by simp [results, Try.results26, go_sem, e0, e1, e2]) rfl HF.out
        | some r =>
          obtain ⟨n6, st6, ca6⟩ := r
          have HE3 := hide (show stepM at_ st ca zs = (n6, st6, ca6, 0) by rw [HE2.out, hdo])
          obtain ⟨S6, C6, cs6, cc6, M6⟩ := HP.out n6 st6 ca6 hdo
          clear hdo
          have HF := hide (stepM_end (n := n6) (r := 0) ⟨M6.2.1.1.down HB3.out.size, M6.2.1.2.1.down HB3.out.size, M6.2.1.2.2⟩ HB6.out HA6.out.2 (Nat.le_succ _))
          have Z6 := put3_box HA6.out.2 (.int .i64 n6) (.slice S6 st6.length cs6) (.slice C6 ca6.length cc6)
          have m0 := M6.1.cell 0
          have m1 := M6.1.cell 1
          have m2 := M6.1.cell 2
          simp only [List.getElem?_toArray, List.getElem?_cons_zero, List.getElem?_cons_succ] at m0 m1 m2
          have y0 := HA6.out.2.cell 0
          have y1 := HA6.out.2.cell 1
          have y2 := HA6.out.2.cell 2
          simp only [List.getElem?_toArray, List.getElem?_cons_zero, List.getElem?_cons_succ] at y0 y1 y2
          have f0 := HA6.out.2.frozen 0
          have f1 := HA6.out.2.frozen 1
          have f2 := HA6.out.2.frozen 2
          have e0 := Z6.cell 0
          have e1 := Z6.cell 1
          have e2 := Z6.cell 2
          simp only [List.getElem?_toArray, List.getElem?_cons_zero, List.getElem?_cons_succ] at e0 e1 e2
          have hV6 := M6.1.lt
          clear Z6 M6
          go_wp2_with fail
          rw [HE3.out]
          exact bodyPost_ret (v := .tuple #[.agg #[.int .i64 n6, .slice S6 st6.length cs6, .slice C6 ca6.length cc6], .int .i64 0]) (by simp [results, Try.results26, go_sem, e0, e1, e2]) rfl HF.out
end Go.Proofs.Ytjnnjgogpapbhaa.CStepI
