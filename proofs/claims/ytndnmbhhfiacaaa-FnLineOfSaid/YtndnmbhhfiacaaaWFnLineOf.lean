/- The walk of FnLineOf: addresses have the line of the row before. -/
import Derived.Test.YtndnmbhhfiacaaaDRows
import Derived.Test.YtndnmbhhfiacaaaPLines
import Derived.Test.YtndnmbhhfiacaaaCAlive
import Derived.Deep.RegionLaw
import Derived.Deep.RegionHeld3
import Derived.IntWalk
namespace Go.Proofs.Ytndnmbhhfiacaaa.WFnLineOf
set_option maxRecDepth 200000
open Go.ChangeShapes Go.WideShapes Go.ChangeAt Go.RowKit Kit CCode CRows CRowsValid CPutRows PLines DPick DVar DRows CAlive
set_option maxHeartbeats 4000000 in
theorem draw_any {A : Option Addr} {zs : List Int} {c : Nat} {w : World} (hr : Rd w w.heap.size A (ints .u8 zs)) (hz : InR 0 255 zs) (hc : zs.length ≤ c) (hcm : c ≤ maxLen) :
    Calls Try.prog 44 #[.slice A zs.length c] w (fun e w' => ∃ (A' : Option Addr) (ys : List CRows.D) (c' : Nat) (a : Int), e = .returned (.tuple #[.slice A' ys.length c', .int .i64 a]) ∧ ys.length ≤ 7 ∧ w'.ownsRow w.heap.size 31 2 (.slice A' ys.length c') ys.length (cellsOf rowC ys) ∧ Below w.heap.size w w') := by
  have HO := hide (open_any A zs c w hr hz hc hcm)
  clear hr hz hc hcm
  go_enter Try.func44, Try.ntmps44
  go_wp2_with fail
  refine HO.out.mono ?_
  rintro e w1 ⟨R, rfl, T, b1⟩
  have T0 := Tp.start T
  have hRl := T.1
  have HB := hide b1
  clear T b1
  go_wp2_with fail
  refine (rows_any T0 (by omega) (by omega) _ (by omega) (by omega)).mono ?_
  rintro e w2 ⟨A', ys, c', rfl, y0, y1, o2, T2⟩
  have HO2 := hide o2
  have hR2 := T0.lt
  clear o2 HO T0 y1
  by_cases hn : ys.length = 0
  · have hnd : decide (0 < ys.length) = false := by rw [hn]; rfl
    clear hn
    go_wp2_with fail
    refine (pick_tp (by first | with_reducible assumption | exact Tp.alloc (by with_reducible assumption) _ | exact Tp.alloc (Tp.alloc (by with_reducible assumption) _) _ | exact Tp.drewN (by with_reducible assumption) _ | exact Tp.drew (by with_reducible assumption) | exact Tp.drawn (by with_reducible assumption) | exact Tp.alloc (Tp.drewN (by with_reducible assumption) _) _ | exact Tp.alloc (Tp.drew (by with_reducible assumption)) _ | exact Tp.alloc (Tp.alloc (Tp.alloc (by with_reducible assumption) _) _) _) (by omega) _ (by omega) (by omega)).mono ?_
    rintro e w3 ⟨x, rfl, x0, x1, T3, g3⟩
    have HO3 := hide (own_pick HO2.out g3 hR2)
    have HT3 := hide T3
    clear T2 g3 T3
    go_wp2_with fail
    go_ret2
    exact ⟨A', ys, c', _, rfl, y0, own_base HO3.out HB.out.size, HB.out.trans (HT3.out.below HB.out.size hRl)⟩
  · obtain ⟨g, rfl⟩ := own_form HO2.out hn
    have hn0 : 0 < ys.length := by omega
    go_wp2_with fail
    refine (pick_tp (by first | with_reducible assumption | exact Tp.alloc (by with_reducible assumption) _ | exact Tp.alloc (Tp.alloc (by with_reducible assumption) _) _ | exact Tp.drewN (by with_reducible assumption) _ | exact Tp.drew (by with_reducible assumption) | exact Tp.drawn (by with_reducible assumption) | exact Tp.alloc (Tp.drewN (by with_reducible assumption) _) _ | exact Tp.alloc (Tp.drew (by with_reducible assumption)) _ | exact Tp.alloc (Tp.alloc (Tp.alloc (by with_reducible assumption) _) _) _) (by omega) _ (by omega) (by omega)).mono ?_
    rintro e w3 ⟨x, rfl, x0, x1, T3, g3⟩
    have HO3 := hide (own_pick HO2.out g3 hR2)
    have hR3 := T3.lt
    by_cases hx : x = 0
    · subst hx
      have HT3 := hide (T3.more (N' := 100) (by omega))
      have hn1 : (100 : Int) ≤ 1099511627776 := by omega
      have hn2 : (100 : Int) + 1 ≤ 1099511627776 := by omega
      have hl1 : (1 : Int) ≤ (ys.length : Int) := by omega
      have hl2 : (ys.length : Int) ≤ 1099511627776 := by omega
      clear T2 g3 T3 x0 x1 HO2
      go_wp2_with fail
      go_region_law ((first | (go_simp; go_at_call_of 113 (Value.int .i64 2); refine (pick_tp (w0 := w1) (B := w.heap.size) (by repeat (first | (apply Hid.out; with_reducible assumption) | with_reducible apply Tp.alloc | with_reducible apply Tp.drew | with_reducible apply Tp.drewN)) (by assumption) _ (by decide) (by decide)).mono ?_; rintro e wM ⟨v, rfl, v0, v1, T, g'⟩; have HTM := hide T; have q2 := (grown_cell g' (World.block_lt_of_cell? _ _ q0) (fun k hk => by injection hk with hk; have := (HO3.out.lt g rfl).1; show k ≠ g; omega)).trans q0; have HGM : Hid (w3.grownBy wM (some R)) := hide (grown_trans (by repeat (first | with_reducible assumption | (apply Hid.out; with_reducible assumption) | exact grown_refl _ _ | with_reducible apply grown_alloc | with_reducible apply grown_drew | with_reducible apply grown_drewN)) g'); clear T g') | (go_simp; go_at_call 113; refine (pick_tp (w0 := w1) (B := w.heap.size) (by repeat (first | (apply Hid.out; with_reducible assumption) | with_reducible apply Tp.alloc | with_reducible apply Tp.drew | with_reducible apply Tp.drewN)) (by assumption) _ hl1 hl2).mono ?_; rintro e wN ⟨x, rfl, x0, x1, T, g'⟩; have hx : x.toNat < ys.length := (by omega); have HG : Hid (w3.grownBy wN (some R)) := hide (grown_trans (by repeat (first | with_reducible assumption | (apply Hid.out; with_reducible assumption) | exact grown_refl _ _ | with_reducible apply grown_alloc | with_reducible apply grown_drew | with_reducible apply grown_drewN)) g'); have q0 := (own_row_at (own_pick HO3.out HG.out hR2) hx).1; have HT := hide T; generalize (ys[x.toNat]'hx).1 = zx at q0; clear T g' hx)))
      all_goals
        have HO4 := hide (own_pick HO3.out HGM.out hR2)
        clear HO3
        simp only [List.getElem_toArray, List.getElem_cons_succ, List.getElem_cons_zero, Act.put, List.setIfInBounds_toArray, List.set_cons_zero, List.set_cons_succ]
        go_wp2_with fail
        go_ret2
        exact ⟨_, ys, c', _, rfl, y0, own_base HO4.out HB.out.size, HB.out.trans (HTM.out.below HB.out.size hRl)⟩
    · have hx1 : (x == 0) = false := beq_eq_false_iff_ne.2 hx
      clear hx T2 g3 HO2
      go_wp2_with fail
      refine (pick_tp T3 (by omega) _ (by omega) (by omega)).mono ?_
      rintro e w4 ⟨y, rfl, yy0, yy1, T4, g4⟩
      have HO4 := hide (own_pick HO3.out g4 hR2)
      have HT4 := hide T4
      clear T3 g4 T4 HO3
      go_wp2_with fail
      go_ret2
      exact ⟨_, ys, c', _, rfl, y0, own_base HO4.out HB.out.size, HB.out.trans (HT4.out.below HB.out.size hRl)⟩
theorem three {w w' : World} {p q r : Addr} {x y z : Value} {B : Nat} (hb : Below B w w') (hp : p.block < B) (hq : q.block < B) (hr : r.block < B) (h : w.cell? p = some x ∧ w.cell? q = some y ∧ w.cell? r = some z) : w'.cell? p = some x ∧ w'.cell? q = some y ∧ w'.cell? r = some z :=
  ⟨(hb.cell hp).trans h.1, (hb.cell hq).trans h.2.1, (hb.cell hr).trans h.2.2⟩
theorem two {w w' : World} {p q : Addr} {x y : Value} {B : Nat} (hb : Below B w w') (hp : p.block < B) (hq : q.block < B) (h : w.cell? p = some x ∧ w.cell? q = some y) : w'.cell? p = some x ∧ w'.cell? q = some y :=
  ⟨(hb.cell hp).trans h.1, (hb.cell hq).trans h.2⟩
set_option maxHeartbeats 4000000 in
theorem walk (A : Option Addr) (zs : List Int) (c : Nat) (hl : zs.length ≤ c) (hc : c ≤ maxLen) (hz : InR 0 255 zs) (w : World) (hr : Rd w w.heap.size A (ints .u8 zs)) :
    Calls Try.prog 9 #[.slice A zs.length c] w (LawEnds w) := by
  have hcm := hc
  unfold maxLen at hcm
  have HD := hide (draw_any hr hz hl hc)
  clear hr hz hc
  by_cases hbig : 1048576 < zs.length
  · go_enter Try.func9, Try.ntmps9
    go_wp2_with fail
    go_ret
    exact ⟨rfl, Below.refl _ _⟩
  go_enter Try.func9, Try.ntmps9
  go_wp2_with fail
  refine HD.out.mono ?_
  rintro e w1 ⟨A1, ys, c1, a, rfl, l1, o1, b1⟩
  have HB := hide b1
  have HO := hide o1
  clear b1 o1
  have hym : ys.length ≤ maxLen := by unfold maxLen; omega
  go_wp2_with fail
  refine (lineOf_any A1 ys c1 a w1 (Rd.of_own HO.out) hym).mono ?_
  rintro e w2 ⟨rfl, b2⟩
  have HO2 := hide (own_call b2 HO.out)
  have HB2 := hide (HB.out.trans (b2.mono HB.out.size))
  clear b2 HO HB
  go_wp2_with fail
  refine (lineOfS_any A1 ys c1 a w2 (Rd.of_own HO2.out) hym).mono ?_
  rintro e w3 ⟨rfl, b3⟩
  have HO3 := hide (own_call b3 HO2.out)
  have HB3 := hide (HB2.out.trans (b3.mono HB2.out.size))
  clear b3 HO2 HB2
  have hn0 := lineOf_nonneg ys a
  generalize lineOf ys a = n at *
  go_wp2_with fail
  go_loopw [6] (fun i wr => ∃ k : Nat, k ≤ ys.length ∧ i = .int .i64 k ∧ wr.ownsRow w.heap.size 31 2 (.slice A1 ys.length c1) ys.length (cellsOf rowC ys) ∧ Below w.heap.size w wr) (fun i _ => ys.length - (intOf i).toNat)
  case atStart => exact ⟨0, Nat.zero_le _, rfl, HO3.out, HB3.out⟩
  case round =>
    obtain ⟨k, hk, rfl, ho, hb⟩ := hrel
    have HO := hide ho
    have HB := hide hb
    clear ho hb HO3 HB3
    by_cases hlt : k < ys.length
    · go_wp2_with fail
      refine (rowsValid_any A1 ys c1 _ (Rd.of_own HO.out) hym).mono ?_
      rintro e w4 ⟨rfl, b4⟩
      have HO4 := hide (own_call b4 HO.out)
      have HB4 := hide (HB.out.trans (b4.mono HB.out.size))
      clear b4 HO HB
      cases hv : rowsOk ys
      · have HB := HB4
        clear HO4 HB4 hv
        go_wp2_with fail
        refine (alive_any _).mono ?_
        rintro e w' ⟨rfl, rfl⟩
        go_wp2_with fail
        go_ret
        exact ⟨rfl, HB.out⟩
      · have HF := hide (lineOf_at hv hlt)
        obtain ⟨b, off, hA, hbg, hc⟩ := (Rd.of_own HO4.out).row rowC_len (by decide) hlt
        subst hA
        have q0 := hc 0 _ rfl
        have q1 := hc 1 _ rfl
        simp only [Nat.add_zero] at q0
        have HR4 := hide (Rd.of_own HO4.out)
        by_cases hk1 : k + 1 < ys.length
        · have HL := hide (lineOf_before hv hk1)
          obtain ⟨y0, y1, _, _, _⟩ := rowsOk_at hv hk1
          obtain ⟨b', off', e', _, hc'⟩ := (Rd.of_own HO4.out).row rowC_len (by decide) hk1
          simp only [Option.some.injEq, Addr.mk.injEq, and_true] at e'
          obtain ⟨rfl, rfl⟩ := e'
          have q2 := hc' 0 _ rfl
          simp only [Nat.add_zero] at q2
          generalize ys[k] = z at *
          generalize ys[k + 1] = y at *
          clear hc hc' hv
          have Z4 : w4.cell? ⟨b, off + k * 2, none⟩ = some (.int .i64 z.1) ∧ w4.cell? ⟨b, off + k * 2 + 1, none⟩ = some (.int .i64 z.2) ∧ w4.cell? ⟨b, off + (k + 1) * 2, none⟩ = some (.int .i64 y.1) := ⟨q0, q1, q2⟩
          clear q0 q1 q2
          go_wp2_with fail
          have f0 : (0 : Int) ≤ (k : Int) + 1 := by omega
          have f1 : (k : Int) + 1 < (ys.length : Int) := by omega
          have f2 : ((k : Int) + 1).toNat = k + 1 := by omega
          have f3 : decide ((k : Int) + 1 < (ys.length : Int)) = true := decide_eq_true f1
          have ew1 : IntKind.i64.wrap ((k : Int) + 1) = (k : Int) + 1 := IntWalk.i64_in _ (by omega)
          have ew2 : IntKind.i64.wrap (y.1 - 1) = y.1 - 1 := IntWalk.i64_in _ (by omega)
          go_region_held3 (fun (W : World) => W.cell? ⟨b, off + k * 2, none⟩ = some (.int .i64 z.1) ∧ W.cell? ⟨b, off + k * 2 + 1, none⟩ = some (.int .i64 z.2) ∧ W.cell? ⟨b, off + (k + 1) * 2, none⟩ = some (.int .i64 y.1)) (first | exact Z4 | exact Z5 | exact Z6) (first | (go_at_call_of 45 (Value.int .i64 z.1); refine (lineOf_any _ ys c1 _ _ (by exact HR4.out) hym).mono ?_; rintro e w5 ⟨rfl, b5⟩; rw [HF.out]; have HB5 := hide (below_drawn b5); have Z5 := three HB5.out hbg hbg hbg Z4; clear b5) | (go_at_call 45; refine (lineOf_any _ ys c1 _ _ (by exact (HR4.out.below HB5.out).more HB5.out.size) hym).mono ?_; rintro e w6 ⟨rfl, b6⟩; rw [HL.out]; have HB6 := hide (below_drawn b6); have Z6 := three HB6.out (Nat.lt_of_lt_of_le hbg HB5.out.size) (Nat.lt_of_lt_of_le hbg HB5.out.size) (Nat.lt_of_lt_of_le hbg HB5.out.size) Z5; clear b6))
          clear ew1 ew2 f0 f1 f2 f3 Z4 Z5 Z6
          have HO6 := hide (own_call HB6.out (own_call HB5.out HO4.out))
          have HB6' := hide ((HB4.out.trans (HB5.out.mono HB4.out.size)).trans (HB6.out.mono (HB4.out.trans (HB5.out.mono HB4.out.size)).size))
          go_wp2_with fail
          refine ⟨⟨k + 1, by omega, by go_num, HO6.out, HB6'.out⟩, by simp [intOf]; omega⟩
        · generalize ys[k] = z at *
          clear hc hv
          have Z4 : w4.cell? ⟨b, off + k * 2, none⟩ = some (.int .i64 z.1) ∧ w4.cell? ⟨b, off + k * 2 + 1, none⟩ = some (.int .i64 z.2) := ⟨q0, q1⟩
          clear q0 q1
          go_wp2_with fail
          have f3 : decide ((k : Int) + 1 < (ys.length : Int)) = false := decide_eq_false (by omega)
          have f4 : decide (k + 1 < ys.length) = false := decide_eq_false hk1
          have ew1 : IntKind.i64.wrap ((k : Int) + 1) = (k : Int) + 1 := IntWalk.i64_in _ (by omega)
          refine wp_region_held_drew (S := fun (W : World) => W.cell? ⟨b, off + k * 2, none⟩ = some (.int .i64 z.1) ∧ W.cell? ⟨b, off + k * 2 + 1, none⟩ = some (.int .i64 z.2)) (by kernel_rfl) Z4 (fun hHeld => ?_)
          refine wpAnyH_take (i := 0) (v := ?_) rfl (by kernel_rfl) (by kernel_rfl) (by kernel_rfl) (fun _ _ _ h => h) (Or.inl ⟨by rfl, ?_⟩) (by assumption) ?_
          rotate_left 1
          focus (intro w hSw; (try dsimp only at hSw); go_simp; (try with_reducible rfl))
          try simp only [List.getElem_toArray, List.getElem_cons_succ, List.getElem_cons_zero, Act.put, List.setIfInBounds_toArray, List.set_cons_zero, List.set_cons_succ]
          refine wpAnyH_take (i := 1) (v := ?_) rfl (by kernel_rfl) (by kernel_rfl) (by kernel_rfl) (fun _ _ _ h => h) (Or.inl ⟨by rfl, ?_⟩) (by assumption) ?_
          rotate_left 1
          focus (intro w hSw; (try dsimp only at hSw); go_simp; (try with_reducible rfl))
          try simp only [List.getElem_toArray, List.getElem_cons_succ, List.getElem_cons_zero, Act.put, List.setIfInBounds_toArray, List.set_cons_zero, List.set_cons_succ]
          refine wpAnyH_take (i := 2) (v := ?_) rfl (by kernel_rfl) (by kernel_rfl) (by kernel_rfl) (fun _ _ _ h => h) (Or.inl ⟨by rfl, ?_⟩) (by assumption) ?_
          rotate_left 1
          focus (intro w hSw; (try dsimp only at hSw); go_simp; (try with_reducible rfl))
          try simp only [List.getElem_toArray, List.getElem_cons_succ, List.getElem_cons_zero, Act.put, List.setIfInBounds_toArray, List.set_cons_zero, List.set_cons_succ]
          refine wpAnyH_take (i := 3) (v := ?_) rfl (by kernel_rfl) (by kernel_rfl) (by kernel_rfl) (fun _ _ _ h => h) (Or.inl ⟨by rfl, ?_⟩) (by assumption) ?_
          rotate_left 1
          focus (intro w hSw; (try dsimp only at hSw); go_simp; (try with_reducible rfl))
          try simp only [List.getElem_toArray, List.getElem_cons_succ, List.getElem_cons_zero, Act.put, List.setIfInBounds_toArray, List.set_cons_zero, List.set_cons_succ]
          refine wpAnyH_take (i := 4) (v := ?_) rfl (by kernel_rfl) (by kernel_rfl) (by kernel_rfl) (fun _ _ _ h => h) (Or.inl ⟨by rfl, ?_⟩) (by assumption) ?_
          rotate_left 1
          focus (intro w hSw; (try dsimp only at hSw); go_simp; (try with_reducible rfl))
          try simp only [List.getElem_toArray, List.getElem_cons_succ, List.getElem_cons_zero, Act.put, List.setIfInBounds_toArray, List.set_cons_zero, List.set_cons_succ]
          refine wpAnyH_take (i := 5) (v := ?_) rfl (by kernel_rfl) (by kernel_rfl) (by kernel_rfl) (fun _ _ _ h => h) (Or.inl ⟨by rfl, ?_⟩) (by assumption) ?_
          rotate_left 1
          focus (intro w hSw; (try dsimp only at hSw); go_simp; (try with_reducible rfl))
          try simp only [List.getElem_toArray, List.getElem_cons_succ, List.getElem_cons_zero, Act.put, List.setIfInBounds_toArray, List.set_cons_zero, List.set_cons_succ]
          refine wpAnyH_take (i := 7) (v := ?_) rfl (by kernel_rfl) (by kernel_rfl) (by kernel_rfl) (fun _ _ _ h => h) (Or.inl ⟨by rfl, ?_⟩) (by assumption) ?_
          rotate_left 1
          focus (intro w hSw; (try dsimp only at hSw); go_simp; (try with_reducible rfl))
          try simp only [List.getElem_toArray, List.getElem_cons_succ, List.getElem_cons_zero, Act.put, List.setIfInBounds_toArray, List.set_cons_zero, List.set_cons_succ]
          refine wpAnyH_take (i := 8) (v := ?_) rfl (by kernel_rfl) (by kernel_rfl) (by kernel_rfl) (fun _ _ _ h => h) (Or.inl ⟨by rfl, ?_⟩) (by assumption) ?_
          rotate_left 1
          focus (intro w hSw; (try dsimp only at hSw); go_simp; (try with_reducible rfl))
          try simp only [List.getElem_toArray, List.getElem_cons_succ, List.getElem_cons_zero, Act.put, List.setIfInBounds_toArray, List.set_cons_zero, List.set_cons_succ]
          refine wpAnyH_take (i := 9) (v := ?_) rfl (by kernel_rfl) (by kernel_rfl) (by kernel_rfl) (fun _ _ _ h => h) (Or.inl ⟨by rfl, ?_⟩) (by assumption) ?_
          rotate_left 1
          focus (intro w hSw; (try dsimp only at hSw); go_simp; (try with_reducible rfl))
          try simp only [List.getElem_toArray, List.getElem_cons_succ, List.getElem_cons_zero, Act.put, List.setIfInBounds_toArray, List.set_cons_zero, List.set_cons_succ]
          refine wpAnyH_take (i := 10) (v := ?_) rfl (by kernel_rfl) (by kernel_rfl) (by kernel_rfl) (fun _ _ _ h => h) (Or.inl ⟨by rfl, ?_⟩) (by assumption) ?_
          rotate_left 1
          focus (intro w hSw; (try dsimp only at hSw); go_simp; (try with_reducible rfl))
          try simp only [List.getElem_toArray, List.getElem_cons_succ, List.getElem_cons_zero, Act.put, List.setIfInBounds_toArray, List.set_cons_zero, List.set_cons_succ]
          refine wpAnyH_take (i := 11) (v := ?_) rfl (by kernel_rfl) (by kernel_rfl) (by kernel_rfl) (fun _ _ _ h => h) (Or.inl ⟨by rfl, ?_⟩) (by assumption) ?_
          rotate_left 1
          focus (intro w hSw; (try dsimp only at hSw); go_simp; (try with_reducible rfl))
          try simp only [List.getElem_toArray, List.getElem_cons_succ, List.getElem_cons_zero, Act.put, List.setIfInBounds_toArray, List.set_cons_zero, List.set_cons_succ]
          refine wpAnyH_ready (rs := [6]) (by kernel_rfl) (by simp) ?_
          refine AllReadyH.cons rfl (fun K hK => ?_) AllReadyH.nil
          go_simp
          refine (lineOf_any _ ys c1 _ _ (by exact HR4.out) hym).mono ?_
          rintro e w5 ⟨rfl, b5⟩
          rw [HF.out]
          have HB5 := hide (below_drawn b5)
          have Z5 := two HB5.out hbg hbg Z4
          clear b5
          go_wp2_with fail
          refine hK.out _ _ Z5 (fun hHeld5 => ?_)
          clear hK K
          try simp only [List.getElem_toArray, List.getElem_cons_succ, List.getElem_cons_zero, Act.put, List.setIfInBounds_toArray, List.set_cons_zero, List.set_cons_succ]
          refine wpAnyH_take (i := 12) (v := ?_) rfl (by kernel_rfl) (by kernel_rfl) (by kernel_rfl) (fun _ _ _ h => h) (Or.inl ⟨by rfl, ?_⟩) (by assumption) ?_
          rotate_left 1
          focus (intro w hSw; (try dsimp only at hSw); go_simp; (try with_reducible rfl))
          try simp only [List.getElem_toArray, List.getElem_cons_succ, List.getElem_cons_zero, Act.put, List.setIfInBounds_toArray, List.set_cons_zero, List.set_cons_succ]
          refine wpAnyH_take (i := 13) (v := ?_) rfl (by kernel_rfl) (by kernel_rfl) (by kernel_rfl) (fun _ _ _ h => h) (Or.inl ⟨by rfl, ?_⟩) (by assumption) ?_
          rotate_left 1
          focus (intro w hSw; (try dsimp only at hSw); go_simp; (try with_reducible rfl))
          try simp only [List.getElem_toArray, List.getElem_cons_succ, List.getElem_cons_zero, Act.put, List.setIfInBounds_toArray, List.set_cons_zero, List.set_cons_succ]
          refine wpAnyH_take (i := 14) (v := ?_) rfl (by kernel_rfl) (by kernel_rfl) (by kernel_rfl) (fun _ _ _ h => h) (Or.inl ⟨by rfl, ?_⟩) (by assumption) ?_
          rotate_left 1
          focus (intro w hSw; (try dsimp only at hSw); go_simp; (try with_reducible rfl))
          try simp only [List.getElem_toArray, List.getElem_cons_succ, List.getElem_cons_zero, Act.put, List.setIfInBounds_toArray, List.set_cons_zero, List.set_cons_succ]
          refine wpAnyH_take (i := 15) (v := ?_) rfl (by kernel_rfl) (by kernel_rfl) (by kernel_rfl) (fun _ _ _ h => h) (Or.inl ⟨by rfl, ?_⟩) (by assumption) ?_
          rotate_left 1
          focus (intro w hSw; (try dsimp only at hSw); go_simp; (try with_reducible rfl))
          try simp only [List.getElem_toArray, List.getElem_cons_succ, List.getElem_cons_zero, Act.put, List.setIfInBounds_toArray, List.set_cons_zero, List.set_cons_succ]
          refine wpAnyH_take (i := 16) (v := ?_) rfl (by kernel_rfl) (by kernel_rfl) (by kernel_rfl) (fun _ _ _ h => h) (Or.inl ⟨by rfl, ?_⟩) (by assumption) ?_
          rotate_left 1
          focus (intro w hSw; (try dsimp only at hSw); go_simp; (try with_reducible rfl))
          try simp only [List.getElem_toArray, List.getElem_cons_succ, List.getElem_cons_zero, Act.put, List.setIfInBounds_toArray, List.set_cons_zero, List.set_cons_succ]
          refine wpAnyH_take (i := 17) (v := ?_) rfl (by kernel_rfl) (by kernel_rfl) (by kernel_rfl) (fun _ _ _ h => h) (Or.inl ⟨by rfl, ?_⟩) (by assumption) ?_
          rotate_left 1
          focus (intro w hSw; (try dsimp only at hSw); go_simp; (try with_reducible rfl))
          try simp only [List.getElem_toArray, List.getElem_cons_succ, List.getElem_cons_zero, Act.put, List.setIfInBounds_toArray, List.set_cons_zero, List.set_cons_succ]
          refine wpAnyH_take (i := 18) (v := ?_) rfl (by kernel_rfl) (by kernel_rfl) (by kernel_rfl) (fun _ _ _ h => h) (Or.inl ⟨by rfl, ?_⟩) (by assumption) ?_
          rotate_left 1
          focus (intro w hSw; (try dsimp only at hSw); go_simp; (try with_reducible rfl))
          try simp only [List.getElem_toArray, List.getElem_cons_succ, List.getElem_cons_zero, Act.put, List.setIfInBounds_toArray, List.set_cons_zero, List.set_cons_succ]
          refine wpAnyH_take (i := 19) (v := ?_) rfl (by kernel_rfl) (by kernel_rfl) (by kernel_rfl) (fun _ _ _ h => h) (Or.inl ⟨by rfl, ?_⟩) (by assumption) ?_
          rotate_left 1
          focus (intro w hSw; (try dsimp only at hSw); go_simp; (try with_reducible rfl))
          try simp only [List.getElem_toArray, List.getElem_cons_succ, List.getElem_cons_zero, Act.put, List.setIfInBounds_toArray, List.set_cons_zero, List.set_cons_succ]
          refine wpAnyH_take (i := 20) (v := undef) rfl (by kernel_rfl) (by kernel_rfl) (by kernel_rfl) (fun _ _ _ h => h) (Or.inr ⟨by rfl, rfl⟩) (by assumption) ?_
          try simp only [List.getElem_toArray, List.getElem_cons_succ, List.getElem_cons_zero, Act.put, List.setIfInBounds_toArray, List.set_cons_zero, List.set_cons_succ]
          refine wpAnyH_take (i := 21) (v := undef) rfl (by kernel_rfl) (by kernel_rfl) (by kernel_rfl) (fun _ _ _ h => h) (Or.inr ⟨by rfl, rfl⟩) (by assumption) ?_
          try simp only [List.getElem_toArray, List.getElem_cons_succ, List.getElem_cons_zero, Act.put, List.setIfInBounds_toArray, List.set_cons_zero, List.set_cons_succ]
          refine wpAnyH_take (i := 22) (v := undef) rfl (by kernel_rfl) (by kernel_rfl) (by kernel_rfl) (fun _ _ _ h => h) (Or.inr ⟨by rfl, rfl⟩) (by assumption) ?_
          try simp only [List.getElem_toArray, List.getElem_cons_succ, List.getElem_cons_zero, Act.put, List.setIfInBounds_toArray, List.set_cons_zero, List.set_cons_succ]
          refine wpAnyH_take (i := 23) (v := undef) rfl (by kernel_rfl) (by kernel_rfl) (by kernel_rfl) (fun _ _ _ h => h) (Or.inr ⟨by rfl, rfl⟩) (by assumption) ?_
          try simp only [List.getElem_toArray, List.getElem_cons_succ, List.getElem_cons_zero, Act.put, List.setIfInBounds_toArray, List.set_cons_zero, List.set_cons_succ]
          refine wpAnyH_take (i := 24) (v := undef) rfl (by kernel_rfl) (by kernel_rfl) (by kernel_rfl) (fun _ _ _ h => h) (Or.inr ⟨by rfl, rfl⟩) (by assumption) ?_
          try simp only [List.getElem_toArray, List.getElem_cons_succ, List.getElem_cons_zero, Act.put, List.setIfInBounds_toArray, List.set_cons_zero, List.set_cons_succ]
          refine wpAnyH_take (i := 25) (v := undef) rfl (by kernel_rfl) (by kernel_rfl) (by kernel_rfl) (fun _ _ _ h => h) (Or.inr ⟨by rfl, rfl⟩) (by assumption) ?_
          try simp only [List.getElem_toArray, List.getElem_cons_succ, List.getElem_cons_zero, Act.put, List.setIfInBounds_toArray, List.set_cons_zero, List.set_cons_succ]
          refine wpAnyH_take (i := 26) (v := undef) rfl (by kernel_rfl) (by kernel_rfl) (by kernel_rfl) (fun _ _ _ h => h) (Or.inr ⟨by rfl, rfl⟩) (by assumption) ?_
          try simp only [List.getElem_toArray, List.getElem_cons_succ, List.getElem_cons_zero, Act.put, List.setIfInBounds_toArray, List.set_cons_zero, List.set_cons_succ]
          refine wpAnyH_take (i := 27) (v := undef) rfl (by kernel_rfl) (by kernel_rfl) (by kernel_rfl) (fun _ _ _ h => h) (Or.inr ⟨by rfl, rfl⟩) (by assumption) ?_
          try simp only [List.getElem_toArray, List.getElem_cons_succ, List.getElem_cons_zero, Act.put, List.setIfInBounds_toArray, List.set_cons_zero, List.set_cons_succ]
          refine wpAnyH_take (i := 28) (v := undef) rfl (by kernel_rfl) (by kernel_rfl) (by kernel_rfl) (fun _ _ _ h => h) (Or.inr ⟨by rfl, rfl⟩) (by assumption) ?_
          try simp only [List.getElem_toArray, List.getElem_cons_succ, List.getElem_cons_zero, Act.put, List.setIfInBounds_toArray, List.set_cons_zero, List.set_cons_succ]
          refine wpAnyH_take (i := 29) (v := undef) rfl (by kernel_rfl) (by kernel_rfl) (by kernel_rfl) (fun _ _ _ h => h) (Or.inr ⟨by rfl, rfl⟩) (by assumption) ?_
          try simp only [List.getElem_toArray, List.getElem_cons_succ, List.getElem_cons_zero, Act.put, List.setIfInBounds_toArray, List.set_cons_zero, List.set_cons_succ]
          refine wpAnyH_take (i := 30) (v := undef) rfl (by kernel_rfl) (by kernel_rfl) (by kernel_rfl) (fun _ _ _ h => h) (Or.inr ⟨by rfl, rfl⟩) (by assumption) ?_
          try simp only [List.getElem_toArray, List.getElem_cons_succ, List.getElem_cons_zero, Act.put, List.setIfInBounds_toArray, List.set_cons_zero, List.set_cons_succ]
          refine wpAnyH_take (i := 31) (v := undef) rfl (by kernel_rfl) (by kernel_rfl) (by kernel_rfl) (fun _ _ _ h => h) (Or.inr ⟨by rfl, rfl⟩) (by assumption) ?_
          try simp only [List.getElem_toArray, List.getElem_cons_succ, List.getElem_cons_zero, Act.put, List.setIfInBounds_toArray, List.set_cons_zero, List.set_cons_succ]
          refine wpAnyH_take (i := 32) (v := undef) rfl (by kernel_rfl) (by kernel_rfl) (by kernel_rfl) (fun _ _ _ h => h) (Or.inr ⟨by rfl, rfl⟩) (by assumption) ?_
          try simp only [List.getElem_toArray, List.getElem_cons_succ, List.getElem_cons_zero, Act.put, List.setIfInBounds_toArray, List.set_cons_zero, List.set_cons_succ]
          refine wpAnyH_take (i := 33) (v := undef) rfl (by kernel_rfl) (by kernel_rfl) (by kernel_rfl) (fun _ _ _ h => h) (Or.inr ⟨by rfl, rfl⟩) (by assumption) ?_
          try simp only [List.getElem_toArray, List.getElem_cons_succ, List.getElem_cons_zero, Act.put, List.setIfInBounds_toArray, List.set_cons_zero, List.set_cons_succ]
          refine wpAnyH_take (i := 34) (v := undef) rfl (by kernel_rfl) (by kernel_rfl) (by kernel_rfl) (fun _ _ _ h => h) (Or.inr ⟨by rfl, rfl⟩) (by assumption) ?_
          try simp only [List.getElem_toArray, List.getElem_cons_succ, List.getElem_cons_zero, Act.put, List.setIfInBounds_toArray, List.set_cons_zero, List.set_cons_succ]
          refine wpAnyH_take (i := 35) (v := ?_) rfl (by kernel_rfl) (by kernel_rfl) (by kernel_rfl) (fun _ _ _ h => h) (Or.inl ⟨by rfl, ?_⟩) (by assumption) ?_
          rotate_left 1
          focus (intro w hSw; (try dsimp only at hSw); go_simp; (try with_reducible rfl))
          try simp only [List.getElem_toArray, List.getElem_cons_succ, List.getElem_cons_zero, Act.put, List.setIfInBounds_toArray, List.set_cons_zero, List.set_cons_succ]
          refine wpAnyH_take (i := 36) (v := ?_) rfl (by kernel_rfl) (by kernel_rfl) (by kernel_rfl) (fun _ _ _ h => h) (Or.inl ⟨by rfl, ?_⟩) (by assumption) ?_
          rotate_left 1
          focus (intro w hSw; (try dsimp only at hSw); go_simp; (try with_reducible rfl))
          try simp only [List.getElem_toArray, List.getElem_cons_succ, List.getElem_cons_zero, Act.put, List.setIfInBounds_toArray, List.set_cons_zero, List.set_cons_succ]
          refine wpAnyH_done (by kernel_rfl) ?_ _
          clear ew1 f3 f4 Z4 Z5 hHeld hHeld5
          have HO6 := hide (own_call HB5.out HO4.out)
          have HB6' := hide (HB4.out.trans (HB5.out.mono HB4.out.size))
          go_wp2_with fail
          refine ⟨⟨k + 1, by omega, by go_num, HO6.out, HB6'.out⟩, by simp [intOf]; omega⟩
    · clear HO
      go_wp2_with fail
      refine (alive_any _).mono ?_
      rintro e w' ⟨rfl, rfl⟩
      go_wp2_with fail
      go_ret
      exact ⟨rfl, HB.out⟩
end Go.Proofs.Ytndnmbhhfiacaaa.WFnLineOf
