/- The draw of a machine and a program. -/
import Derived.Test.YtjnnjgogpapbhaaDMachine
import Derived.Test.YtjnnjgogpapbhaaDProgram
namespace Go.Proofs.Ytjnnjgogpapbhaa.DStep
set_option maxRecDepth 200000
open Go.ChangeShapes Go.WideShapes Go.ChangeAt Go.RowKit Kit CCode DPick DVar DFrames DMachine DProgram
theorem St.nil {w : World} {base l c : Nat} {A : Option Addr} {zs : List Int} (h : St w base A l c zs) : A = none → c = 0 := by
  rcases h with ⟨b, rfl, rfl, rfl, rfl⟩ | h
  · intro h; cases h
  · exact own_nil h
theorem St.farB {w : World} {base l c : Nat} {A : Option Addr} {zs : List Int} (h : St w base A l c zs) {X i : Nat} {t : TypeId} {cs : Array Value} (hb : Box w X t cs) (hne : 3 ≠ t) (u : Value) : St (w.setCell ⟨X, i, none⟩ u) base A l c zs := h.imp id fun h => own_setFar h (a := ⟨X, i, none⟩) (own_box h hb hne) u
def DrewSM (w : World) (e : Ending) (w' : World) : Prop := ∃ (a : Int) (S C A : Option Addr) (st ca zs : List Int) (cs cc c : Nat), e = .returned (.tuple #[.agg #[.int .i64 a, .slice S st.length cs, .slice C ca.length cc], .slice A zs.length c]) ∧ st.length ≤ 9 ∧ ca.length ≤ 9 ∧ zs.length ≤ 21 ∧ InR 0 255 zs ∧ Rd w' w'.heap.size S (ints .i64 st) ∧ Rd w' w'.heap.size C (ints .i64 ca) ∧ Rd w' w'.heap.size A (ints .u8 zs) ∧ (S = none → cs = 0) ∧ (C = none → cc = 0) ∧ Below w.heap.size w w'
theorem draw_end {w w' : World} {Y b1 b2 b3 : Nat} {a : Int} {S C A : Option Addr} {st ca zs : List Int} {cs cc c : Nat} (l0 : st.length ≤ 9) (l1 : ca.length ≤ 9) (l2 : zs.length ≤ 21) (hz : InR 0 255 zs) (s : St w' b1 S st.length cs st) (s' : St w' b2 C ca.length cc ca) (r : Row w' b3 5 1 A zs.length c (ints .u8 zs)) (hb : Below w.heap.size w w') (hY : w.heap.size ≤ Y) (y1 : Y < b1) (y2 : Y < b2) (hX : Box w' Y 25 #[.int .i64 0, .slice none 0 0, .slice none 0 0]) :
    DrewSM w (.returned (.tuple #[.agg #[.int .i64 a, .slice S st.length cs, .slice C ca.length cc], .slice A zs.length c])) (((w'.setCell ⟨Y, 0, none⟩ (.int .i64 a)).setCell ⟨Y, 1, none⟩ (.slice S st.length cs)).setCell ⟨Y, 2, none⟩ (.slice C ca.length cc)) := by
  have t1 := ((s.far (a := ⟨Y, 0, none⟩) y1 (.int .i64 a)).far (a := ⟨Y, 1, none⟩) y1 (.slice S st.length cs)).far (a := ⟨Y, 2, none⟩) y1 (.slice C ca.length cc)
  have t2 := ((s'.far (a := ⟨Y, 0, none⟩) y2 (.int .i64 a)).far (a := ⟨Y, 1, none⟩) y2 (.slice S st.length cs)).far (a := ⟨Y, 2, none⟩) y2 (.slice C ca.length cc)
  have t3 := ((r.set (a := ⟨Y, 0, none⟩) (r.box hX (by decide)) (.int .i64 a)).set (a := ⟨Y, 1, none⟩) (r.box hX (by decide)) (.slice S st.length cs)).set (a := ⟨Y, 2, none⟩) (r.box hX (by decide)) (.slice C ca.length cc)
  exact ⟨a, S, C, A, st, ca, zs, cs, cc, c, rfl, l0, l1, l2, hz, t1.rd, t2.rd, t3.rd, St.nil t1, St.nil t2, ((hb.setCell (p := ⟨Y, 0, none⟩) hY _).setCell (p := ⟨Y, 1, none⟩) hY _).setCell (p := ⟨Y, 2, none⟩) hY _⟩
set_option maxHeartbeats 4000000 in
theorem draw_any {A : Option Addr} {zs : List Int} {c : Nat} {w : World} (hr : Rd w w.heap.size A (ints .u8 zs)) (hz : InR 0 255 zs) (hc : zs.length ≤ c) (hcm : c ≤ maxLen) :
    Calls Try.prog 32 #[.slice A zs.length c] w (DrewSM w) := by
  have b0 : Below w.heap.size w (w.alloc (.cells #[.int .i64 0, .slice none 0 0, .slice none 0 0] 25)) := (by repeat (first | exact Below.refl _ _ | with_reducible assumption | (refine Below.drew ?_) | (refine Below.drewN ?_ _) | (refine Below.alloc ?_ (by simp; try omega) _) | (refine Below.setCell ?_ (by simp; try omega) _)))
  have HO := hide (open_any A zs c _ ((hr.below b0).more b0.size) hz hc hcm)
  have HX := hide (Box.new w 25 #[.int .i64 0, .slice none 0 0, .slice none 0 0])
  have HB0 := hide b0
  have hsz : (w.alloc (.cells #[.int .i64 0, .slice none 0 0, .slice none 0 0] 25)).heap.size = w.heap.size + 1 := by simp
  have HSZ := hide hsz
  clear hr hz hc hcm b0 hsz
  go_enter Try.func32, Try.ntmps32
  go_wp2_with fail
  refine HO.out.mono ?_
  rintro e w1 ⟨R, rfl, T, b1⟩
  have T0 := Tp.start T
  have hRl := T.1
  have hRY : w.heap.size < R := by have := HSZ.out; omega
  have X1 := HX.out.call b1
  have B1 := hide (HB0.out.trans (b1.mono HB0.out.size))
  have hY1 := X1.lt
  have hR1 := T0.lt
  clear HX HO HB0 b1 T
  go_wp2_with fail
  refine (machine_any T0 (by omega) (by omega) _ (by omega) (by omega)).mono ?_
  rintro e w2 ⟨a, S, C, st, ca, cs, cc, rfl, _, _, l0, l1, _, _, _, _, _, _, s2, c2, T2⟩
  have X2 := X1.grown T2.2 (fun k hk => by injection hk with hk; omega)
  have B2 := hide (B1.out.trans (T2.below (B' := w.heap.size) B1.out.size (Nat.le_of_lt hRY)))
  have h12 := T2.2.size
  have HZ := hide (Box.new w2 25 #[.int .i64 a, .slice S st.length cs, .slice C ca.length cc])
  have bz : Below w2.heap.size w2 (w2.alloc (.cells #[.int .i64 a, .slice S st.length cs, .slice C ca.length cc] 25)) := below_al (Below.refl _ _)
  have HX3 := hide (X2.call bz)
  have B3 := hide (B2.out.trans (bz.mono B2.out.size))
  have HS3 := hide (s2.alloc (.cells #[.int .i64 a, .slice S st.length cs, .slice C ca.length cc] 25))
  have HC3 := hide (c2.alloc (.cells #[.int .i64 a, .slice S st.length cs, .slice C ca.length cc] 25))
  have T3 := T2.alloc (.cells #[.int .i64 a, .slice S st.length cs, .slice C ca.length cc] 25)
  have h23 : w2.heap.size < (w2.alloc (.cells #[.int .i64 a, .slice S st.length cs, .slice C ca.length cc] 25)).heap.size := by simp
  clear X1 X2 T0 T2 s2 c2 bz
  go_wp2_with fail
  generalize hW : (w2.alloc (.cells #[.int .i64 a, .slice S st.length cs, .slice C ca.length cc] 25)) = w3 at *
  clear hW
  have hR3 := T3.lt
  refine (program_any (Tp.start T3.1) (by omega) (by omega)).mono ?_
  rintro e w4 ⟨A4, zs4, c4, rfl, l4, i4, r4, T4⟩
  have hvR : ∀ k, some R = some k → k ≠ w.heap.size ∧ k ≠ w2.heap.size := fun k hk => by injection hk with hk; omega
  have HX4 := hide (HX3.out.grown T4.2 (fun k hk => (hvR k hk).1))
  have HZ4 := hide (HZ.out.grown T4.2 (fun k hk => (hvR k hk).2))
  have HS4 := hide (HS3.out.pick T4.2 hR1)
  have HC4 := hide (HC3.out.pick T4.2 hR1)
  have B4 := hide (B3.out.trans (T4.below (B' := w.heap.size) B3.out.size (Nat.le_of_lt hRY)))
  have HR4 := hide r4
  have h34 := T4.2.size
  clear r4 T3 HX3 HZ HS3 HC3
  go_wp2_with fail
  refine (pick_tp (Tp.start T4.1) (by omega) _ (by omega) (by omega)).mono ?_
  rintro e w5 ⟨x, rfl, x0, x1, T5, g5⟩
  have HX5 := hide (HX4.out.grown g5 (fun k hk => (hvR k hk).1))
  have HZ5 := hide (HZ4.out.grown g5 (fun k hk => (hvR k hk).2))
  have HS5 := hide (HS4.out.pick g5 hR1)
  have HC5 := hide (HC4.out.pick g5 hR1)
  have B5 := hide (B4.out.trans (T5.below (B' := w.heap.size) B4.out.size (Nat.le_of_lt hRY)))
  have HR5 := hide (HR4.out.grown g5 (fun k hk hR => by injection hR with hR; have := (HR4.out.lt k hk).1; omega))
  have hY2 : w.heap.size ≠ w2.heap.size := by omega
  clear T4 T5 g5 HX4 HZ4 HS4 HC4 HR4
  by_cases hx : x = 0
  · subst hx
    have Z6 := HZ5.out.set 0 (.int .i64 0)
    have X6 := HX5.out.far (p := ⟨w2.heap.size, 0, none⟩) hY2 (.int .i64 0)
    have HF := hide (draw_end (a := 0) l0 l1 l4 i4 (St.farB HS5.out (i := 0) HZ5.out (by decide) (.int .i64 0)) (St.farB HC5.out (i := 0) HZ5.out (by decide) (.int .i64 0)) (HR5.out.set (a := ⟨w2.heap.size, 0, none⟩) (HR5.out.box HZ5.out (by decide)) (.int .i64 0)) (B5.out.setCell (p := ⟨w2.heap.size, 0, none⟩) (by show _ ≤ w2.heap.size; omega) (.int .i64 0)) (Nat.le_refl _) hY1 hY1 X6)
    have z0 := HZ5.out.cell 0
    have z1 := HZ5.out.cell 1
    have z2 := HZ5.out.cell 2
    have e0 := HX5.out.cell 0
    have e1 := HX5.out.cell 1
    have e2 := HX5.out.cell 2
    have f0 := HX5.out.frozen 0
    have f1 := HX5.out.frozen 1
    have f2 := HX5.out.frozen 2
    have f3 := HZ5.out.frozen 0
    simp only [List.getElem?_toArray, List.getElem?_cons_zero, List.getElem?_cons_succ] at z0 z1 z2 e0 e1 e2
    have k := ((X6.set 0 (.int .i64 0)).set 1 (.slice S st.length cs)).set 2 (.slice C ca.length cc)
    have k0 := k.cell 0
    have k1 := k.cell 1
    have k2 := k.cell 2
    simp only [List.setIfInBounds_toArray, List.set_cons_zero, List.set_cons_succ, List.getElem?_toArray, List.getElem?_cons_zero, List.getElem?_cons_succ] at k0 k1 k2
    clear Z6 X6 k x0 x1
    go_wp2_with fail
    exact bodyPost_ret (v := .tuple #[.agg #[.int .i64 0, .slice S st.length cs, .slice C ca.length cc], .slice A4 zs4.length c4]) (by simp [results, Try.results32, go_sem, k0, k1, k2]) rfl HF.out
  · have HF := hide (draw_end (a := a) l0 l1 l4 i4 HS5.out HC5.out HR5.out B5.out (Nat.le_refl _) hY1 hY1 HX5.out)
    have hx' : (x == 0) = false := by simpa using hx
    have z0 := HZ5.out.cell 0
    have z1 := HZ5.out.cell 1
    have z2 := HZ5.out.cell 2
    have e0 := HX5.out.cell 0
    have e1 := HX5.out.cell 1
    have e2 := HX5.out.cell 2
    have f0 := HX5.out.frozen 0
    have f1 := HX5.out.frozen 1
    have f2 := HX5.out.frozen 2
    simp only [List.getElem?_toArray, List.getElem?_cons_zero, List.getElem?_cons_succ] at z0 z1 z2 e0 e1 e2
    have k := ((HX5.out.set 0 (.int .i64 a)).set 1 (.slice S st.length cs)).set 2 (.slice C ca.length cc)
    have k0 := k.cell 0
    have k1 := k.cell 1
    have k2 := k.cell 2
    simp only [List.setIfInBounds_toArray, List.set_cons_zero, List.set_cons_succ, List.getElem?_toArray, List.getElem?_cons_zero, List.getElem?_cons_succ] at k0 k1 k2
    clear k hx x0 x1
    go_wp2_with fail
    exact bodyPost_ret (v := .tuple #[.agg #[.int .i64 a, .slice S st.length cs, .slice C ca.length cc], .slice A4 zs4.length c4]) (by simp [results, Try.results32, go_sem, k0, k1, k2]) rfl HF.out
end Go.Proofs.Ytjnnjgogpapbhaa.DStep
