/- The walk of FnUnwindStack: calls are in frames. -/
import Derived.Test.YtndnmbhhfiacaaaDFrames
import Derived.Test.YtndnmbhhfiacaaaPFrames
import Derived.Test.YtndnmbhhfiacaaaCUnwind
import Derived.Test.YtndnmbhhfiacaaaCSame
import Derived.Test.YtndnmbhhfiacaaaDRows
import Derived.Test.YtndnmbhhfiacaaaCAlive
import Derived.Test.YtndnmbhhfiacaaaBase4
import Derived.Deep.RegionHeld3
import Derived.IntWalk
namespace Go.Proofs.Ytndnmbhhfiacaaa.WFnUnwindStack
set_option maxRecDepth 200000
open Go.ChangeShapes Go.WideShapes Go.ChangeAt Go.RowKit Kit CCode CFrames CFramesValid PFrames CUnwind CSame DPick DVar DFrames CAlive
theorem unw_fuel (zs : List CFrames.D) : ∀ (f g : Nat) (a : Int) (r : List Int), r.length < f → r.length < g → unw zs f a r = unw zs g a r
  | 0, _, _, _, h, _ => absurd h (Nat.not_lt_zero _)
  | _ + 1, 0, _, _, _, h => absurd h (Nat.not_lt_zero _)
  | f + 1, g + 1, a, r, hf, hg => by
    rw [unw, unw]
    by_cases h : frameOf zs a < 0
    · rw [if_pos h, if_pos h]
    · rw [if_neg h, if_neg h]
      by_cases hn : (zs.getD (frameOf zs a).toNat (0, 0, 0)).2.2.toNat < r.length
      · simp only [hn, dite_true]
        rw [unw_fuel zs f g _ _ (by rw [List.length_drop]; omega) (by rw [List.length_drop]; omega)]
      · simp only [hn, dite_false]
theorem unw_in (zs : List CFrames.D) : ∀ (f : Nat) (a : Int) (r : List Int), ∀ y ∈ unw zs f a r, 0 ≤ frameOf zs y
  | 0, _, _, y, h => by simp [unw] at h
  | f + 1, a, r, y, h => by
    rw [unw] at h
    by_cases hn : frameOf zs a < 0
    · rw [if_pos hn] at h; simp at h
    · rw [if_neg hn] at h
      rcases List.mem_cons.1 h with rfl | h
      · omega
      · split at h
        · exact unw_in zs f _ _ y h
        · simp at h
theorem unwound_in {zs : List CFrames.D} {st : List Int} {a : Int} : ∀ y ∈ unwound zs st a, 0 ≤ frameOf zs y := fun y h => by
  unfold unwound at h
  split at h
  · exact unw_in zs _ _ _ y h
  · simp at h
theorem unwound_cases (zs : List CFrames.D) (st : List Int) (a : Int) : (unwound zs st a = [] ∧ (40 < st.length ∨ frameOf zs a = -1)) ∨
    (st.length ≤ 40 ∧ ∃ (j : Nat) (hj : j < zs.length) (n : Nat), frameOf zs a = j ∧ zs[j].2.2 = (n : Int) ∧ n ≤ 40 ∧ ((st.length ≤ n ∧ unwound zs st a = [a]) ∨ ∃ h : n < st.length, unwound zs st a = a :: unwound zs (st.drop (n + 1)) st[n])) := by
  by_cases h40 : st.length ≤ 40
  · have e : unwound zs st a = unw zs (st.length + 1) a st := by rw [unwound, if_pos h40]
    by_cases hn : frameOf zs a < 0
    · refine .inl ⟨by rw [e, unw_neg hn], .inr ?_⟩
      rcases frameOf_cases zs a with h | ⟨j, _, h, _⟩
      · exact h
      · omega
    · obtain ⟨j, hj, n, hjk, hnn, hn40⟩ := frameOf_ge (by omega : 0 ≤ frameOf zs a)
      refine .inr ⟨h40, j, hj, n, hjk, hnn, hn40, ?_⟩
      rw [e, unw_step hj hjk hnn]
      by_cases h : n < st.length
      · refine .inr ⟨h, ?_⟩
        rw [dif_pos h, unwound, if_pos (by rw [List.length_drop]; omega), unw_fuel zs st.length ((st.drop (n + 1)).length + 1) _ _ (by rw [List.length_drop]; omega) (by omega)]
      · exact .inl ⟨by omega, by rw [dif_neg h]⟩
  · exact .inl ⟨by rw [unwound, if_neg h40], .inl (by omega)⟩
def DrewFS (w : World) (e : Ending) (w' : World) : Prop := ∃ (A S : Option Addr) (ys : List CFrames.D) (st : List Int) (c cs : Nat) (a : Int), e = .returned (.tuple #[.slice A ys.length c, .slice S st.length cs, .int .i64 a]) ∧ ys.length ≤ 7 ∧ st.length ≤ 41 ∧ st.length ≤ cs ∧ cs ≤ maxLen ∧ 0 ≤ a ∧ a ≤ 100 ∧ Rd w' w'.heap.size A (cellsOf frameC ys) ∧ Rd w' w'.heap.size S (ints .i64 st) ∧ Below w.heap.size w w'
theorem Rd.pick {w w' : World} {base n c R size : Nat} {E : TypeId} {A : Option Addr} {xs : List Value} (h : w.ownsRow base E size (.slice A n c) n xs) (g : w.grownBy w' (some R)) (hR : R < base) : Rd w' w'.heap.size A xs :=
  Rd.of_own (own_pick h g hR)
set_option maxHeartbeats 4000000 in
theorem draw_any {A : Option Addr} {zs : List Int} {c : Nat} {w : World} (hr : Rd w w.heap.size A (ints .u8 zs)) (hz : InR 0 255 zs) (hc : zs.length ≤ c) (hcm : c ≤ maxLen) :
    Calls Try.prog 62 #[.slice A zs.length c] w (DrewFS w) := by
  obtain ⟨i0, hi, hz0, hz1, hz2⟩ := info_parts info64
  have HO := hide (open_any A zs c w hr hz hc hcm)
  clear hr hz hc hcm
  go_enter Try.func62, Try.ntmps62
  go_wp2_with fail
  refine HO.out.mono ?_
  rintro e w1 ⟨R, rfl, T, b1⟩
  have T0 := Tp.start T
  have hRl := T.1
  have hR1 := T0.lt
  have HB := hide b1
  clear T b1 HO
  go_wp2_with fail
  refine (frames_any T0 (by omega) (by omega) _ (by omega) (by omega)).mono ?_
  rintro e w2 ⟨A2, ys, c2, rfl, y0, y1, o2, T2⟩
  have hs2 := T2.2.size
  have hR2 : R < w2.heap.size := by omega
  have HFX := hide (fun k hk => (o2.lt k hk).2)
  have HF2 := hide (o2.alloc (.cells #[] 3))
  have HS2 := hide (own_emptyAt (w := w2) (E := 3) (base := w2.heap.size) (Nat.le_refl _))
  have T2' := T2.alloc (.cells #[] 3)
  clear o2 T0 T2 y1
  go_wp2_with fail
  refine (pick_tp (by first | with_reducible assumption | exact Tp.alloc (by with_reducible assumption) _ | exact Tp.alloc (Tp.alloc (by with_reducible assumption) _) _ | exact Tp.drewN (by with_reducible assumption) _ | exact Tp.drew (by with_reducible assumption) | exact Tp.drawn (by with_reducible assumption) | exact Tp.alloc (Tp.drewN (by with_reducible assumption) _) _ | exact Tp.alloc (Tp.drew (by with_reducible assumption)) _ | exact Tp.alloc (Tp.alloc (Tp.alloc (by with_reducible assumption) _) _) _) (by omega) _ (by omega) (by omega)).mono ?_
  rintro e w3 ⟨x, rfl, x0, x1, T3, g3⟩
  have HF3 := hide (own_pick HF2.out g3 hR1)
  have HS3 := hide (own_pick HS2.out g3 hR2)
  have hs3 : w2.heap.size ≤ w3.heap.size := by have := g3.size; simp at this; omega
  have HT3 := hide T3
  obtain ⟨j, rfl⟩ := Int.eq_ofNat_of_zero_le x0
  clear g3 T2' HF2 HS2 T3
  go_wp2_with fail
  go_loopw [7, 8] (fun o k wr => ∃ (i : Nat) (A' : Option Addr) (l c' : Nat) (zs : List Int), k = .int .i64 i ∧ o = .slice A' l c' ∧ l = zs.length ∧ l + i ≤ 15 ∧ wr.ownsRow w2.heap.size 3 1 (.slice A' l c') l (ints .i64 zs) ∧ wr.ownsRow w1.heap.size 36 3 (.slice A2 ys.length c2) ys.length (cellsOf frameC ys) ∧ Tp w1 wr w.heap.size R (70 + 2 * (15 - i : Int)) ∧ w2.heap.size ≤ wr.heap.size) (fun _ k _ => (intOf k).toNat)
  case atStart => exact ⟨j, _, 0, _, [], rfl, rfl, rfl, by omega, HS3.out, HF3.out, HT3.out.more (by omega), hs3⟩
  case round =>
    obtain ⟨i, A', l, c', zs, rfl, rfl, hl, hli, ho, hof, T, hsz⟩ := hrel
    have HL := hide hl
    have HO := hide ho
    have HF := hide hof
    clear hl ho hof HF3 HS3 HT3
    by_cases h0 : 0 < i
    · go_wp2_with fail
      refine (pick_tp (by first | with_reducible assumption | exact Tp.alloc (by with_reducible assumption) _ | exact Tp.alloc (Tp.alloc (by with_reducible assumption) _) _ | exact Tp.drewN (by with_reducible assumption) _ | exact Tp.drew (by with_reducible assumption) | exact Tp.drawn (by with_reducible assumption) | exact Tp.alloc (Tp.drewN (by with_reducible assumption) _) _ | exact Tp.alloc (Tp.drew (by with_reducible assumption)) _ | exact Tp.alloc (Tp.alloc (Tp.alloc (by with_reducible assumption) _) _) _) (by omega) _ (by omega) (by omega)).mono ?_
      rintro e w4 ⟨y, rfl, z0, z1, T4, g4⟩
      have HO4 := hide (own_pick HO.out g4 hR2)
      have HF4 := hide (own_pick HF.out g4 hR1)
      have hs4 := Nat.le_trans hsz g4.size
      have HT4 := hide T4
      clear T g4 HO HF T4
      go_wp2_with (at_builtin; refine wpList_app1 w4 rfl (.tmp 20) (.tmp 23) 44 rfl w2.heap.size 3 i0 (.int .i64 0) 1 8 Try.underlying44 hi hz0 hz1 hz2 rfl (by decide) _ rfl rfl ?o1 _ _ _ rfl HO4.out ?n1 ?n2 hs4 ?_)
      case o1 => first | rfl | (simp; done) | (intro u hu; simp at hu; subst hu; rfl)
      case n1 => unfold maxLen; omega
      case n2 => omega
      intro A5 n5 c5 w5 hn5 o5 g5
      subst hn5
      have HO5 := hide o5
      have hge : ∀ k, (Value.slice A' l c').ownBlock = some k → w2.heap.size ≤ k := fun k hk => (HO4.out.lt k hk).1
      have HF5 := hide (own_older HF4.out g5 HFX.out hge)
      have HT5 := hide (HT4.out.own g5 (fun k hk => ⟨Nat.le_trans hs2 (hge k hk), Nat.lt_of_lt_of_le hR2 (hge k hk)⟩))
      have hs5 := Nat.le_trans hs4 g5.size
      clear o5 g5 HO4 HF4 HT4 hge
      go_wp2_with fail
      refine ⟨⟨i - 1, A5, l + 1, c5, zs ++ [y], by go_num, rfl, by rw [HL.out]; simp, by omega, by simpa using HO5.out, HF5.out, HT5.out.more (by omega), hs5⟩, by simp [intOf]; omega⟩
    · have e : i = 0 := by omega
      subst e
      have hl := HL.out
      subst hl
      clear h0
      go_wp2_with fail
      refine (odd_tp (by first | with_reducible assumption | exact Tp.alloc (by with_reducible assumption) _ | exact Tp.alloc (Tp.alloc (by with_reducible assumption) _) _ | exact Tp.drewN (by with_reducible assumption) _ | exact Tp.drew (by with_reducible assumption) | exact Tp.drawn (by with_reducible assumption) | exact Tp.alloc (Tp.drewN (by with_reducible assumption) _) _ | exact Tp.alloc (Tp.drew (by with_reducible assumption)) _ | exact Tp.alloc (Tp.alloc (Tp.alloc (by with_reducible assumption) _) _) _) (by omega) _ (by omega) (by omega)).mono ?_
      rintro e w4 ⟨bo, rfl, T4, g4⟩
      have HO4 := hide (own_pick HO.out g4 hR2)
      have HF4 := hide (own_pick HF.out g4 hR1)
      clear T g4 HO HF
      cases bo
      · go_wp2_with fail
        refine (pick_tp (by first | with_reducible assumption | exact Tp.alloc (by with_reducible assumption) _ | exact Tp.alloc (Tp.alloc (by with_reducible assumption) _) _ | exact Tp.drewN (by with_reducible assumption) _ | exact Tp.drew (by with_reducible assumption) | exact Tp.drawn (by with_reducible assumption) | exact Tp.alloc (Tp.drewN (by with_reducible assumption) _) _ | exact Tp.alloc (Tp.drew (by with_reducible assumption)) _ | exact Tp.alloc (Tp.alloc (Tp.alloc (by with_reducible assumption) _) _) _) (by omega) _ (by omega) (by omega)).mono ?_
        rintro e w5 ⟨y, rfl, z0, z1, T5, g5⟩
        have HO5 := hide (own_pick HO4.out g5 hR2)
        have HF5 := hide (own_pick HF4.out g5 hR1)
        have HT5 := hide T5
        clear T4 g5 HO4 HF4 T5
        go_wp2_with fail
        go_ret3
        exact ⟨A2, A', ys, zs, c2, c', _, rfl, y0, by omega, own_cap HO5.out, own_capm HO5.out, by omega, by omega, Rd.of_own HF5.out, Rd.of_own HO5.out, HB.out.trans (HT5.out.below HB.out.size hRl)⟩
      · go_wp2_with (at_make; refine wpList_make_full _ rfl _ _ _ rfl w4.heap.size 3 i0 (.int .i64 0) 1 Try.underlying44 hi hz0 hz1 .i64 .i64 _ _ 41 rfl rfl rfl rfl ?c1 ?c2 ?c3 ?_)
        case c1 => rw [hz2]; omega
        case c2 => unfold maxLen; omega
        case c3 => exact Nat.le_refl _
        intro w5 hown hg
        rw [zero_cells'] at hown
        have b5 : Below w4.heap.size w4 w5 := (Below.refl _ _).grown hg (Nat.le_refl _) (by intro k h; cases h)
        have HO5 := hide hown
        have HF5 := hide (own_call b5 HF4.out)
        have T5 := T4.call b5
        have hR4 := T4.lt
        clear hg hown b5 HF4 HO4 T4
        go_wp2_with fail
        refine (pick_tp (by first | with_reducible assumption | exact Tp.alloc (by with_reducible assumption) _ | exact Tp.alloc (Tp.alloc (by with_reducible assumption) _) _ | exact Tp.drewN (by with_reducible assumption) _ | exact Tp.drew (by with_reducible assumption) | exact Tp.drawn (by with_reducible assumption) | exact Tp.alloc (Tp.drewN (by with_reducible assumption) _) _ | exact Tp.alloc (Tp.drew (by with_reducible assumption)) _ | exact Tp.alloc (Tp.alloc (Tp.alloc (by with_reducible assumption) _) _) _) (by omega) _ (by omega) (by omega)).mono ?_
        rintro e w6 ⟨y, rfl, z0, z1, T6, g6⟩
        have HO6 := hide (own_pick HO5.out g6 hR4)
        have HF6 := hide (own_pick HF5.out g6 hR1)
        have HT6 := hide T6
        clear T5 g6 HO5 HF5 T6
        go_wp2_with fail
        go_ret3
        exact ⟨A2, some ⟨w4.heap.size, 0, none⟩, ys, List.replicate 41 0, c2, 41, _, (by rw [List.length_replicate]; rfl), y0, by simp, by simp, by unfold maxLen; omega, by omega, by omega, Rd.of_own HF6.out, Rd.of_own (by simpa using HO6.out), HB.out.trans (HT6.out.below HB.out.size hRl)⟩
theorem two {w w' : World} {p q : Addr} {x y : Value} {B : Nat} (hb : Below B w w') (hp : p.block < B) (hq : q.block < B) (h : w.cell? p = some x ∧ w.cell? q = some y) : w'.cell? p = some x ∧ w'.cell? q = some y :=
  ⟨(hb.cell hp).trans h.1, (hb.cell hq).trans h.2⟩
set_option maxHeartbeats 4000000 in
theorem walk (A : Option Addr) (zs : List Int) (c : Nat) (hl : zs.length ≤ c) (hc : c ≤ maxLen) (hz : InR 0 255 zs) (w : World) (hr : Rd w w.heap.size A (ints .u8 zs)) :
    Calls Try.prog 14 #[.slice A zs.length c] w (LawEnds w) := by
  have hcm := hc
  unfold maxLen at hcm
  have HD := hide (draw_any hr hz hl hc)
  clear hr hz hc
  by_cases hbig : 1048576 < zs.length
  · go_enter Try.func14, Try.ntmps14
    go_wp2_with fail
    go_ret
    exact ⟨rfl, Below.refl _ _⟩
  go_enter Try.func14, Try.ntmps14
  go_wp2_with fail
  refine HD.out.mono ?_
  rintro e w1 ⟨A1, S1, ys, st, c1, cs, a, rfl, l1, l2, l3, l4, a0, a1, rA, rS, b1⟩
  have HB := hide b1
  have hw1 := b1.size
  have HRA := hide rA
  have HRS := hide rS
  have hym : ys.length ≤ maxLen := by unfold maxLen; omega
  have hsm : st.length ≤ maxLen := by unfold maxLen; omega
  have HFR := hide (fun (a : Int) (w : World) h => frameOf_any A1 ys c1 a w h hym)
  have HUN := hide (fun (S : Option Addr) (st : List Int) (cs : Nat) (a : Int) (w : World) h h' h1 h2 => unwindStack_any A1 S ys st c1 cs a w h h' hym h1 h2)
  have HC := hide (unwound_cases ys st a)
  have HIN := hide (unwound_in (zs := ys) (st := st) (a := a))
  have hxl := unwound_len ys st a
  have HU1 := hide (HUN.out S1 st cs a w1 HRA.out HRS.out l3 l4)
  have HU2 := hide (fun (w : World) h h' => unwindStackS_any A1 S1 ys st c1 cs a w h h' hym l3 l4)
  clear b1 rA rS hym hsm HD
  generalize hx : unwound ys st a = x at *
  clear hx
  go_wp2_with fail
  refine HU1.out.mono ?_
  rintro e w2 ⟨X, cx, rfl, o2, b2⟩
  have HO2 := hide o2
  have HB2 := hide (HB.out.trans (b2.mono HB.out.size))
  have HRA2 := hide (HRA.out.below b2)
  have HRS2 := hide (HRS.out.below b2)
  have hs2 := b2.size
  clear o2 b2 HB HRA HRS HU1
  go_wp2_with fail
  refine (HU2.out w2 (HRA2.out.more hs2) (HRS2.out.more hs2)).mono ?_
  rintro e w3 ⟨Y, cy, rfl, o3, b3⟩
  have HY3 := hide (Rd.of_own o3)
  have HO3 := hide (own_call b3 HO2.out)
  have HB3 := hide (HB2.out.trans (b3.mono HB2.out.size))
  have HRA3 := hide (HRA2.out.below (b3.mono hs2))
  have HRS3 := hide (HRS2.out.below (b3.mono hs2))
  have hs3 := Nat.le_trans hs2 b3.size
  have hxm : x.length ≤ maxLen := by unfold maxLen; omega
  have HXM := hide hxm
  clear o3 b3 HO2 HB2 HRA2 HRS2 HU2 hxm
  go_wp2_with fail
  refine (sameInts_any X Y x x cx cy w3.heap.size w3 (Rd.of_own HO3.out) HY3.out HXM.out HXM.out).mono ?_
  rintro e w' ⟨rfl, n, rfl⟩
  rw [beq_self_eq_true]
  have HO4 := hide (own_call (Kit.Below.drewN (Below.refl _ _) n) HO3.out)
  have HB4 := hide (Kit.Below.drewN HB3.out n)
  have HRA4 := hide (HRA3.out.below (Kit.Below.drewN (Below.refl w1.heap.size w3) n))
  have HRS4 := hide (HRS3.out.below (Kit.Below.drewN (Below.refl w1.heap.size w3) n))
  have hs4 : w1.heap.size ≤ (w3.drewN n).heap.size := by simpa using hs3
  clear HO3 HB3 HRA3 HRS3 HY3
  generalize w3.drewN n = w4 at *
  go_wp2_with fail
  go_loopw [7] (fun i wr => ∃ k : Nat, k ≤ x.length ∧ i = .int .i64 k ∧ wr.ownsRow w1.heap.size 3 1 (.slice X x.length cx) x.length (ints .i64 x) ∧ Below w1.heap.size w4 wr ∧ w1.heap.size ≤ wr.heap.size) (fun i _ => x.length - (intOf i).toNat)
  case atStart => exact ⟨0, Nat.zero_le _, rfl, HO4.out, Below.refl _ _, hs4⟩
  case round =>
    obtain ⟨k, hk, rfl, ho, hb, hs⟩ := hrel
    have HO := hide ho
    have HB := hide hb
    clear ho hb HO4
    by_cases hlt : k < x.length
    · obtain ⟨b, off, rfl, hbg, hq⟩ := (Rd.of_own HO.out).int hlt
      have hin := HIN.out x[k] (List.getElem_mem hlt)
      have HRAx := hide (((HRA4.out.below HB.out)).more hs)
      have HFR1 := hide (fun (w : World) h => HFR.out x[k] w h)
      generalize x[k] = y at *
      generalize frameOf ys y = m at *
      have hd : decide (m < 0) = false := by simp; omega
      go_wp2_with fail
      refine (HFR1.out _ HRAx.out).mono ?_
      rintro e w5 ⟨rfl, b5⟩
      have HO5 := hide (own_call b5 HO.out)
      have HB5 := hide (HB.out.trans (b5.mono hs))
      have hs5 := Nat.le_trans hs b5.size
      clear b5 HO HB HFR1 HRAx hq
      go_wp2_with fail
      refine ⟨⟨k + 1, by omega, by go_num, HO5.out, HB5.out, hs5⟩, by simp [intOf]; omega⟩
    · have HRAx := hide ((HRA4.out.below HB.out).more hs)
      have HRSx := hide (HRS4.out.below HB.out)
      have HBx := hide (HB4.out.trans (HB.out.mono hw1))
      have hbx := HBx.out.size
      clear HRA4 HRS4 HB4 HB HIN
      rcases HC.out with ⟨rfl, h⟩ | ⟨h40, j, hj, n, hjk, hnn, hn40, h⟩
      · clear HC HO
        by_cases hbig2 : 40 < st.length
        · have hd : decide (40 < st.length) = true := decide_eq_true hbig2
          clear h
          go_wp2_with fail
          refine (alive_any _).mono ?_
          rintro e w' ⟨rfl, rfl⟩
          go_wp2_with fail
          go_ret
          exact ⟨rfl, HBx.out⟩
        · have hd : decide (40 < st.length) = false := decide_eq_false hbig2
          have he : frameOf ys a = -1 := h.resolve_left hbig2
          have HFR1 := hide (fun (w : World) h => HFR.out a w h)
          rw [he] at HFR1
          clear h he
          go_wp2_with fail
          refine (HFR1.out _ HRAx.out).mono ?_
          rintro e w5 ⟨rfl, b5⟩
          have HB5 := hide (HBx.out.trans (b5.mono hbx))
          clear b5 HBx HFR1
          go_wp2_with fail
          refine (alive_any _).mono ?_
          rintro e w' ⟨rfl, rfl⟩
          go_wp2_with fail
          go_ret
          exact ⟨rfl, HB5.out⟩
      · have h0 : frameOf ys a = j := hjk
        have hx0 : ∃ v, x = a :: v := by
          rcases h with ⟨_, h⟩ | ⟨_, h⟩
          · exact ⟨_, h⟩
          · exact ⟨_, h⟩
        have hx1 : 1 ≤ x.length := by obtain ⟨v, rfl⟩ := hx0; simp
        obtain ⟨g, rfl⟩ := DRows.own_form HO.out (by omega)
        have hcx := own_cap HO.out
        have hcxm := own_capm HO.out
        unfold maxLen at hcxm l4
        have hgw : g < wr.heap.size := (HO.out.lt g rfl).2
        have hxc : wr.cell? ⟨g, 0, none⟩ = some (.int .i64 a) := by
          obtain ⟨v, rfl⟩ := hx0
          have := HO.out.cellAt 0 (by simp)
          simpa [ints] using this
        have HX := hide hxc
        have HFR1 := hide (fun (w : World) h => HFR.out a w h)
        rw [h0] at HFR1
        have hd0 : decide (x.length = 0) = false := decide_eq_false (by omega)
        have HH := hide h
        have HN := hide hnn
        clear HC h h0 hjk hxc hx0 hnn
        go_wp2_with fail
        refine (HFR1.out _ HRAx.out).mono ?_
        rintro e w5 ⟨rfl, b5⟩
        have HB5 := hide (HBx.out.trans (b5.mono hbx))
        have HO5 := hide (own_call b5 HO.out)
        have HRA5 := hide (HRAx.out.below b5)
        have HRS5 := hide (HRSx.out.below (b5.mono hs))
        have hs5 := b5.size
        have hX5 := (Below.cell b5 (p := ⟨g, 0, none⟩) hgw).trans HX.out
        obtain ⟨b, off, rfl, hbl, hc⟩ := HRA5.out.row frameC_len (by decide) hj
        have hc2 := hc 2 _ rfl
        rw [HN.out] at hc2
        clear b5 hc HN HFR1 HBx HO HRAx HRSx HX
        rcases HH.out with ⟨hsn, hxa⟩ | ⟨hns, hxa⟩
        · subst hxa
          clear HH hx1
          go_wp2_with fail
          go_ret
          exact ⟨rfl, HB5.out⟩
        · obtain ⟨b', off', rfl, hb', hq⟩ := HRS5.out.int hns
          have hxl1 : x.length - 1 = (unwound ys (st.drop (n + 1)) st[n]).length := by rw [hxa]; simp
          have hxd : (x.drop 1).take (x.length - 1) = unwound ys (st.drop (n + 1)) st[n] := by rw [hxa]; simp
          have HU3 := hide (fun (S2 : Option Addr) (w : World) (h : Rd w w.heap.size (some ⟨b, off, none⟩) (cellsOf frameC ys)) (h' : Rd w w.heap.size S2 (ints .i64 (st.drop (n + 1)))) => show Calls Try.prog 63 #[.slice (some ⟨b, off, none⟩) ys.length c1, .slice S2 (st.length - (n + 1)) (cs - (n + 1)), .int .i64 st[n]] w (RetInts 3 .i64 (unwound ys (st.drop (n + 1)) st[n]) w) from by
            have := HUN.out S2 (st.drop (n + 1)) (cs - (n + 1)) st[n] w h h' (by rw [List.length_drop]; omega) (by unfold maxLen; omega)
            rwa [List.length_drop] at this)
          have HD := hide (show Rd w5 w1.heap.size (if cs = n + 1 then some ⟨b', off', none⟩ else some ⟨b', off' + (n + 1), none⟩) (ints .i64 (st.drop (n + 1))) by
            by_cases he : cs = n + 1
            · rw [List.drop_eq_nil_of_le (by omega)]
              exact Rd.nil _
            · rw [if_neg he]
              have := (HRS5.out.slice (n + 1) (st.length - (n + 1)) (by omega)).1
              rwa [List.take_of_length_le (by rw [List.length_drop]; exact Nat.le_refl _)] at this)
          have HXD := hide (show Rd w5 w5.heap.size (if cx = 1 then some ⟨g, 0, none⟩ else some ⟨g, 1, none⟩) (ints .i64 (unwound ys (st.drop (n + 1)) st[n])) by
            by_cases he : cx = 1
            · rw [List.eq_nil_of_length_eq_zero (by omega : (unwound ys (st.drop (n + 1)) st[n]).length = 0)]
              exact Rd.nil _
            · rw [if_neg he]
              have := ((Rd.of_own HO5.out).slice 1 (x.length - 1) (by omega)).1
              rwa [hxd] at this)
          have hvl := unwound_len ys (st.drop (n + 1)) st[n]
          have hg5 := (HO5.out.lt g rfl).2
          generalize unwound ys (st.drop (n + 1)) st[n] = v at *
          generalize st[n] = y at *
          have hvm : v.length ≤ maxLen := by unfold maxLen; omega
          have HSI := hide (fun (A5 X5 : Option Addr) (c5 : Nat) (w : World) h h' => sameInts_any A5 X5 v v c5 (cx - 1) w.heap.size w h h' hvm hvm)
          have HVL := hide hxl1
          rw [← HVL.out] at HSI
          have Z5 : w5.cell? ⟨g, 0, none⟩ = some (.int .i64 a) ∧ w5.cell? ⟨b', off' + n, none⟩ = some (.int .i64 y) := ⟨hX5, hq⟩
          have hb5 : b' < w5.heap.size := by omega
          have hd1 : decide (st.length ≤ n) = false := decide_eq_false (by omega)
          have f1 : IntKind.i64.wrap ((n : Int) + 1) = (n : Int) + 1 := IntWalk.i64_in _ (by omega)
          have g1 : ((n : Int) + 1).toNat = n + 1 := by omega
          have g2 : (n : Int) + 1 ≤ (st.length : Int) := by omega
          have g3 : 0 ≤ (n : Int) + 1 := by omega
          have g4 : (n : Int) + 1 ≤ (cs : Int) := by omega
          have g5 : (st.length : Int) ≤ (cs : Int) := by omega
          have k2 : (1 : Int) ≤ (x.length : Int) := by omega
          have k4 : (x.length : Int) ≤ (cx : Int) := by omega
          have k5 : n + 1 ≤ st.length := by omega
          have k6 : 0 < x.length := by omega
          have k7 : (0 : Int) < (x.length : Int) := by omega
          have k8 : (n : Int) < (st.length : Int) := by omega
          have k9 : (0 : Int) ≤ (n : Int) := by omega
          have hs15 : w1.heap.size ≤ w5.heap.size := Nat.le_trans hs hs5
          clear HH hxa hxl1 hxd hvm hvl HRS5 HUN HO5 hX5 hq HFR
          go_wp2_with fail
          clear hc2
          by_cases hcs : cs = n + 1 <;> by_cases hcx1 : cx = 1
          all_goals
            first | have q1 := eq_false hcs | have q1 := eq_true hcs
            first | have q2 := eq_false hcx1 | have q2 := eq_true hcx1
            simp only [q1, if_true, if_false] at HD
            simp only [q2, if_true, if_false] at HXD
            clear hcs hcx1
            go_region_held3 (fun (W : World) => W.cell? ⟨g, 0, none⟩ = some (.int .i64 a) ∧ W.cell? ⟨b', off' + n, none⟩ = some (.int .i64 y)) (first | exact Z5 | exact Z6) (first | (go_at_call 63; refine (HU3.out _ _ (by exact HRA5.out.more hs5) (by exact HD.out.more hs15)).mono ?_; rintro e w6 ⟨A6, c6, rfl, o6, b6⟩; have HB6 := hide (below_drawn b6); have HR6 := hide (Rd.of_own o6); have Z6 := two HB6.out hg5 hb5 Z5; rw [← HVL.out]; clear o6 b6) | (go_at_call 64; refine (HSI.out _ _ c6 _ (by exact HR6.out) (by exact (HXD.out.below HB6.out).more HB6.out.size)).mono ?_; rintro e w' ⟨rfl, n, rfl⟩; rw [beq_self_eq_true]))
            have HB7 := hide (Kit.Below.drewN (HB5.out.trans (HB6.out.mono HB5.out.size)) n)
            go_wp2_with fail
            go_ret
            exact ⟨rfl, HB7.out⟩
end Go.Proofs.Ytndnmbhhfiacaaa.WFnUnwindStack
