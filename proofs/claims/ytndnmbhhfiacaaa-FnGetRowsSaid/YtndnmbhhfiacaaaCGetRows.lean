/- Contracts of GetRows, the program's and the reference's. -/
import Derived.Test.YtndnmbhhfiacaaaPGetRows
import Derived.Test.YtndnmbhhfiacaaaCGetVar
import Derived.Test.YtndnmbhhfiacaaaCEqual
import Derived.Test.YtndnmbhhfiacaaaBase4
namespace Go.Proofs.Ytndnmbhhfiacaaa.CGetRows
set_option maxRecDepth 200000
open Go.ChangeShapes Go.WideShapes Go.ChangeAt Go.RowKit Kit CCode CRows CRowsValid PVar CPutVar CZig PRows CPutRows CGetVar PGetRows
/-- A call hands back rows in memory of its own, and a bool. -/
def RetRowsB (T : List RD) (V : Bool) (w : World) (e : Ending) (w' : World) : Prop :=
  ∃ A c, e = .returned (.tuple #[.slice A T.length c, .bool V]) ∧ w'.ownsRow w.heap.size 31 2 (.slice A T.length c) T.length (cellsOf rowC T) ∧ Below w.heap.size w w'
theorem RetRowsB.mk {T : List RD} {V : Bool} {w w' : World} {A : Option Addr} {n c : Nat} (hn : n = T.length) (ho : w'.ownsRow w.heap.size 31 2 (.slice A n c) n (cellsOf rowC T)) (hb : Below w.heap.size w w') :
    RetRowsB T V w (.returned (.tuple #[.slice A n c, .bool V])) w' := by
  subst hn
  exact ⟨A, c, rfl, ho, hb⟩
theorem RetRowsB.nil {w w' : World} (hb : Below w.heap.size w w') : RetRowsB [] false w (.returned (.tuple #[.slice none 0 0, .bool false])) w' := ⟨none, 0, rfl, World.ownsRow_nil _ _ _ _, hb⟩
theorem RetRowsB.empty {w w' : World} (hb : Below w.heap.size w w') : RetRowsB [] false w (.returned (.tuple #[.slice (some ⟨w'.heap.size, 0, none⟩) 0 0, .bool false])) (w'.alloc (.cells #[] 31)) :=
  RetRowsB.mk (n := 0) rfl (World.ownsRow_lit (base := w.heap.size) (e := 31) (size := 2) w' #[] 0 hb.size (Nat.zero_le _) rfl) (hb.alloc hb.size _)
/-- Where the rows that have been read lie: at the empty literal, or in a block behind the variable of the last row. -/
def Fresh (B : Nat) (A' : Option Addr) (c' : Nat) (pre : List RD) : Prop := (pre = [] ∧ c' = 0 ∧ A' = some ⟨B, 0, none⟩) ∨ ∀ k, (Value.slice A' pre.length c').ownBlock = some k → B + 2 ≤ k
theorem Fresh.ne {B : Nat} {A' : Option Addr} {c' : Nat} {pre : List RD} (h : Fresh B A' c' pre) : ∀ k, (Value.slice A' pre.length c').ownBlock = some k → k ≠ B + 1 := fun k hk => by
  rcases h with ⟨_, _, rfl⟩ | h
  · obtain rfl : B = k := by simpa [Value.ownBlock] using hk
    omega
  · have := h k hk
    omega
theorem one2 {a b : Int} : ∀ u ∈ (#[.int .i64 a, .int .i64 b] : Array Value).toList, u.oneCell' = true := by
  intro u hu
  simp only [List.mem_cons, List.not_mem_nil, or_false] at hu
  rcases hu with rfl | rfl <;> rfl
set_option maxHeartbeats 4000000 in
theorem getRows_any (A : Option Addr) (zs : List Int) (c : Nat) (w : World) (hr : Rd w w.heap.size A (ints .u8 zs)) (hz : InR 0 255 zs) (hm : zs.length ≤ 1048576) (hc : zs.length ≤ c) :
    Calls Try.prog 78 #[.slice A zs.length c] w (RetRowsB (growsOf zs).1 (growsOf zs).2 w) := by
  obtain ⟨i0, hi, hz0, hz1, hz2⟩ := info_parts CRows.info
  have ho0 := World.ownsRow_lit (base := w.heap.size) (e := 31) (size := 2) w #[] 0 (Nat.le_refl _) (Nat.zero_le _) rfl
  have HO0 := hide (ho0.alloc (.cells #[.int .i64 0, .int .i64 0] 31))
  have hx0 := Box.new (w.alloc (.cells #[] 31)) 31 #[.int .i64 0, .int .i64 0]
  have hsz0 : (w.alloc (.cells #[] 31)).heap.size = w.heap.size + 1 := by simp
  rw [hsz0] at hx0
  have HX0 := hide hx0
  have HB0 : Hid (Below w.heap.size w ((w.alloc (.cells #[] 31)).alloc (.cells #[.int .i64 0, .int .i64 0] 31))) := (by repeat (first | exact Below.refl _ _ | with_reducible assumption | (refine Below.drew ?_) | (refine Below.drewN ?_ _) | (refine Below.alloc ?_ (by simp; try omega) _) | (refine Below.setCell ?_ (by simp; try omega) _)))
  have HS0 := hide (rel_start zs)
  have HR := hide hr
  have HZ := hide hz
  clear ho0 hx0 hsz0 hr hz
  go_enter Try.func78, Try.ntmps78
  go_wp2_with fail
  go_loopw [4, 6] (fun o at_ wr => ∃ (a : Nat) (A' : Option Addr) (l c' : Nat) (pre : List RD) (p : RD), at_ = .int .i64 a ∧ o = .slice A' l c' ∧ l = pre.length ∧ pre.length ≤ 12 ∧ Rel zs a pre p ∧ wr.ownsRow w.heap.size 31 2 (.slice A' l c') l (cellsOf rowC pre) ∧ Fresh w.heap.size A' c' pre ∧ Box wr (w.heap.size + 1) 31 #[.int .i64 p.1, .int .i64 p.2] ∧ Below w.heap.size w wr) (fun _ i _ => zs.length - (intOf i).toNat)
  case atStart => exact ⟨0, _, 0, 0, [], (0, 0), rfl, rfl, rfl, by simp, HS0.out, HO0.out, .inl ⟨rfl, rfl, rfl⟩, HX0.out, HB0.out⟩
  case round =>
    obtain ⟨a, A', l, c', pre, p, rfl, rfl, hl, hp12, hrel, ho, hfr, hx, hb⟩ := hrel
    subst hl
    have HL := hide hrel
    have HO := hide ho
    have HF := hide hfr
    have HX := hide hx
    have HB := hide hb
    have HR1 := hide ((HR.out.below hb).more hb.size)
    obtain ⟨hal, hpl, pb0, pb1, pb2, pb3, _⟩ := hrel
    clear ho hfr hx hb HO0 HX0 HB0 HS0
    by_cases hlt : a < zs.length
    · rcases rel_cases HZ.out HL.out hlt with ⟨e1, hg⟩ | ⟨n, mid, e1, e2, hn, hmid, hg⟩ | ⟨n, mid, m, nx, e1, e2, hn, hmid, hmm, hi0, hg⟩ | ⟨n, mid, m, nx, e1, e2, hn, hmid, hmm, hi0, hanx, hnx, hrel'⟩
      · have HG := hide hg
        have H1 := hide e1
        have hu : inB (-1) 0 268435454 = false := rfl
        clear hg e1 HF HL
        go_wp2_with fail
        refine (getVar_any A zs c a wr HR1.out HZ.out hm hc (by omega) (by omega)).mono ?_
        rw [H1.out]
        rintro e w1 ⟨rfl, b1⟩
        have HR2 := hide (((HR.out.below (HB.out.trans (b1.mono HB.out.size))).more (HB.out.trans (b1.mono HB.out.size)).size))
        have HO1 := hide (own_call b1 HO.out)
        have HX1 := hide (HX.out.call b1)
        have HB1 := hide (HB.out.trans (b1.mono HB.out.size))
        clear b1 HO HX HB HR1
        go_wp2_with fail
        refine (getVar_any A zs c a w1 HR2.out HZ.out hm hc (by omega) (by omega)).mono ?_
        rw [H1.out]
        rintro e w2 ⟨rfl, b2⟩
        have HO2 := hide (own_call b2 HO1.out)
        have HX2 := hide (HX1.out.call b2)
        have HB2 := hide (HB1.out.trans (b2.mono HB1.out.size))
        clear b2 HO1 HX1 HB1 HR2
        go_wp2_with fail
        refine (unZigZag_any (-1) _ (by omega) (by omega)).mono ?_
        rw [hu]
        rintro e w' ⟨rfl, rfl⟩
        go_wp2_with fail
        go_ret2
        rw [(grows_none HG.out).1, (grows_none HG.out).2]
        exact RetRowsB.nil HB2.out
      · have HG := hide hg
        have H1 := hide e1
        have H2 := hide e2
        have hu : inB (-1) 0 268435454 = false := rfl
        clear hg e1 e2 HF HL
        go_wp2_with fail
        refine (getVar_any A zs c a wr HR1.out HZ.out hm hc (by omega) (by omega)).mono ?_
        rw [H1.out]
        rintro e w1 ⟨rfl, b1⟩
        have HR2 := hide (((HR.out.below (HB.out.trans (b1.mono HB.out.size))).more (HB.out.trans (b1.mono HB.out.size)).size))
        have HO1 := hide (own_call b1 HO.out)
        have HX1 := hide (HX.out.call b1)
        have HB1 := hide (HB.out.trans (b1.mono HB.out.size))
        clear b1 HO HX HB HR1
        go_wp2_with fail
        refine (getVar_any A zs c mid w1 HR2.out HZ.out hm hc (by omega) (by omega)).mono ?_
        rw [H2.out]
        rintro e w2 ⟨rfl, b2⟩
        have HO2 := hide (own_call b2 HO1.out)
        have HX2 := hide (HX1.out.call b2)
        have HB2 := hide (HB1.out.trans (b2.mono HB1.out.size))
        clear b2 HO1 HX1 HB1 HR2
        go_wp2_with fail
        refine (unZigZag_any (-1) _ (by omega) (by omega)).mono ?_
        rw [hu]
        rintro e w' ⟨rfl, rfl⟩
        go_wp2_with fail
        go_ret2
        rw [(grows_none HG.out).1, (grows_none HG.out).2]
        exact RetRowsB.nil HB2.out
      · have HG := hide hg
        have H1 := hide e1
        have H2 := hide e2
        have HU := hide hi0
        clear hg e1 e2 HF HL hi0
        go_wp2_with fail
        refine (getVar_any A zs c a wr HR1.out HZ.out hm hc (by omega) (by omega)).mono ?_
        rw [H1.out]
        rintro e w1 ⟨rfl, b1⟩
        have HR2 := hide (((HR.out.below (HB.out.trans (b1.mono HB.out.size))).more (HB.out.trans (b1.mono HB.out.size)).size))
        have HO1 := hide (own_call b1 HO.out)
        have HX1 := hide (HX.out.call b1)
        have HB1 := hide (HB.out.trans (b1.mono HB.out.size))
        clear b1 HO HX HB HR1
        go_wp2_with fail
        refine (getVar_any A zs c mid w1 HR2.out HZ.out hm hc (by omega) (by omega)).mono ?_
        rw [H2.out]
        rintro e w2 ⟨rfl, b2⟩
        have HO2 := hide (own_call b2 HO1.out)
        have HX2 := hide (HX1.out.call b2)
        have HB2 := hide (HB1.out.trans (b2.mono HB1.out.size))
        clear b2 HO1 HX1 HB1 HR2
        go_wp2_with fail
        refine (unZigZag_any m _ (by omega) (by omega)).mono ?_
        rw [HU.out]
        rintro e w' ⟨rfl, rfl⟩
        go_wp2_with fail
        go_ret2
        rw [(grows_none HG.out).1, (grows_none HG.out).2]
        exact RetRowsB.nil HB2.out
      · have H1 := hide e1
        have H2 := hide e2
        have HU := hide hi0
        have HRel := hide hrel'
        obtain ⟨ub0, ub1⟩ := unzig_bd (m : Int)
        have HMany := hide (fun h => gOpt_many HL.out hlt h)
        clear e1 e2 HL hi0 hrel'
        generalize hu : unzig (m : Int) = ln at *
        have HUL := hide hu
        clear hu
        have hne := HF.out.ne
        have HNE := hide hne
        clear hne
        by_cases hp : pre.length = 12
        · have HG := hide (HMany.out hp)
          have hp' : ((pre.length : Int) == 12) = true := beq_iff_eq.2 (by omega)
          clear HMany hp
          go_wp2_with fail
          refine (getVar_any A zs c a wr HR1.out HZ.out hm hc (by omega) (by omega)).mono ?_
          rw [H1.out]
          rintro e w1 ⟨rfl, b1⟩
          have HR2 := hide (((HR.out.below (HB.out.trans (b1.mono HB.out.size))).more (HB.out.trans (b1.mono HB.out.size)).size))
          have HO1 := hide (own_call b1 HO.out)
          have HX1 := hide (HX.out.call b1)
          have HB1 := hide (HB.out.trans (b1.mono HB.out.size))
          clear b1 HO HX HB HR1
          go_wp2_with fail
          refine (getVar_any A zs c mid w1 HR2.out HZ.out hm hc (by omega) (by omega)).mono ?_
          rw [H2.out]
          rintro e w2 ⟨rfl, b2⟩
          have HO2 := hide (own_call b2 HO1.out)
          have HX2 := hide (HX1.out.call b2)
          have HB2 := hide (HB1.out.trans (b2.mono HB1.out.size))
          clear b2 HO1 HX1 HB1 HR2
          go_wp2_with fail
          refine (unZigZag_any m _ (by omega) (by omega)).mono ?_
          rw [HU.out, HUL.out]
          rintro e w' ⟨rfl, rfl⟩
          go_wp2_with fail
          go_ret2
          rw [(grows_none HG.out).1, (grows_none HG.out).2]
          exact RetRowsB.nil HB2.out
        have hp' : ((pre.length : Int) == 12) = false := beq_eq_false_iff_ne.2 (by omega)
        clear HMany
        go_wp2_with fail
        refine (getVar_any A zs c a wr HR1.out HZ.out hm hc (by omega) (by omega)).mono ?_
        rw [H1.out]
        rintro e w1 ⟨rfl, b1⟩
        have HR2 := hide (((HR.out.below (HB.out.trans (b1.mono HB.out.size))).more (HB.out.trans (b1.mono HB.out.size)).size))
        have HO1 := hide (own_call b1 HO.out)
        have HX1 := hide (HX.out.call b1)
        have HB1 := hide (HB.out.trans (b1.mono HB.out.size))
        clear b1 HO HX HB HR1
        go_wp2_with fail
        refine (getVar_any A zs c mid w1 HR2.out HZ.out hm hc (by omega) (by omega)).mono ?_
        rw [H2.out]
        rintro e w2 ⟨rfl, b2⟩
        have HO2 := hide (own_call b2 HO1.out)
        have HX2 := hide (HX1.out.call b2)
        have HB2 := hide (HB1.out.trans (b2.mono HB1.out.size))
        clear b2 HO1 HX1 HB1 HR2
        go_wp2_with fail
        refine (unZigZag_any m _ (by omega) (by omega)).mono ?_
        rw [HU.out, HUL.out]
        rintro e w' ⟨rfl, rfl⟩
        have q0 := HX2.out.cell 0
        have q1 := HX2.out.cell 1
        have f0 := HX2.out.frozen 0
        have f1 := HX2.out.frozen 1
        simp only [List.getElem?_toArray, List.getElem?_cons_zero, List.getElem?_cons_succ] at q0 q1
        have hX := HX2.out.lt
        have HO3 := hide (own_setFar (own_setFar HO2.out (a := ⟨w.heap.size + 1, 0, none⟩) HNE.out (.int .i64 (p.1 + n))) (a := ⟨w.heap.size + 1, 1, none⟩) HNE.out (.int .i64 (p.2 + ln)))
        have hX3 := (HX2.out.set 0 (.int .i64 (p.1 + n))).set 1 (.int .i64 (p.2 + ln))
        simp only [List.setIfInBounds_toArray, List.set_cons_zero, List.set_cons_succ] at hX3
        have HX3 := hide hX3
        have HB3 := hide ((HB2.out.setCell (p := ⟨w.heap.size + 1, 0, none⟩) (by show w.heap.size ≤ w.heap.size + 1; omega) (.int .i64 (p.1 + n))).setCell (p := ⟨w.heap.size + 1, 1, none⟩) (by show w.heap.size ≤ w.heap.size + 1; omega) (.int .i64 (p.2 + ln)))
        have hs3 : w.heap.size + 2 ≤ ((w2.setCell ⟨w.heap.size + 1, 0, none⟩ (.int .i64 (p.1 + n))).setCell ⟨w.heap.size + 1, 1, none⟩ (.int .i64 (p.2 + ln))).heap.size := by simp; omega
        clear HO2 HX2 HB2 hX3
        rcases HF.out with ⟨rfl, rfl, rfl⟩ | hfr
        · clear HF HNE
          go_wp2_with (at_builtin; refine wpList_app1Gk _ rfl (.tmp 60) (.tmp 62) 27 rfl 31 i0 (.agg #[.int .i64 0, .int .i64 0]) 2 16 Try.underlying27 hi hz0 hz1 hz2 rfl (by decide) _ _ rfl (by simp) rfl one2 _ rfl (by omega) ?_)
          intro A6 n6 c6 w6 hn6 o6 g6
          subst hn6
          have hb6 := HB3.out.alloc HB3.out.size (.cells #[.int .i64 (p.1 + n), .int .i64 (p.2 + ln)] 31)
          have HB6 := hide (hb6.grown g6 hb6.size (fun k hk => by cases hk))
          have HX6 := hide ((HX3.out.alloc (.cells #[.int .i64 (p.1 + n), .int .i64 (p.2 + ln)] 31)).grown g6 (fun k hk => by cases hk))
          have hbb := HB3.out.size
          have HO6 := hide (own_base (base' := w.heap.size) o6 (by first | omega | (simp at hbb ⊢; omega)))
          clear hbb
          have HF6 := hide (show Fresh w.heap.size A6 c6 ([] ++ [(p.1 + (n : Int), p.2 + ln)]) from .inr (fun k hk => by have := (o6.lt k hk).1; omega))
          clear o6 g6 hb6 HO3 HX3 HB3 q0 q1 f0 f1
          go_wp2_with fail
          exact ⟨⟨nx, A6, 1, c6, [] ++ [(p.1 + (n : Int), p.2 + ln)], (p.1 + (n : Int), p.2 + ln), by go_num, rfl, rfl, by simp, HRel.out, HO6.out, HF6.out, HX6.out, HB6.out⟩, by simp [intOf]; omega⟩
        · have HOR := hide (own_raise HO3.out hfr)
          clear HF HNE hfr HO3
          go_wp2_with (at_builtin; refine wpList_app1k _ rfl (.tmp 60) (.tmp 62) 27 rfl (w.heap.size + 2) 31 i0 (.agg #[.int .i64 0, .int .i64 0]) 2 16 Try.underlying27 hi hz0 hz1 hz2 rfl (by decide) _ _ rfl (by simp) rfl one2 _ _ _ rfl HOR.out ?n1 ?n2 hs3 ?_)
          case n1 => unfold maxLen; omega
          case n2 => omega
          intro A6 n6 c6 w6 hn6 o6 g6
          subst hn6
          have HB6 := hide (HB3.out.grown g6 HB3.out.size (fun k hk => Nat.le_trans (by omega) (HOR.out.lt k hk).1))
          have HX6 := hide (HX3.out.grown g6 (fun k hk => by have := (HOR.out.lt k hk).1; omega))
          have HO6 := hide (own_base o6 (show w.heap.size ≤ w.heap.size + 2 by omega))
          have HF6 := hide (show Fresh w.heap.size A6 c6 (pre ++ [(p.1 + (n : Int), p.2 + ln)]) from .inr (fun k hk => (o6.lt k (by simpa using hk)).1))
          clear o6 g6 HOR HX3 HB3 q0 q1 f0 f1
          go_wp2_with fail
          exact ⟨⟨nx, A6, pre.length + 1, c6, pre ++ [(p.1 + (n : Int), p.2 + ln)], (p.1 + (n : Int), p.2 + ln), by go_num, rfl, by simp, by simp; omega, HRel.out, by simpa [cellsOf, rowC] using HO6.out, HF6.out, HX6.out, HB6.out⟩, by simp [intOf]; omega⟩
    · have HG := hide (gOpt_end HL.out hlt)
      have hpm : pre.length ≤ maxLen := by unfold maxLen; omega
      have HP := hide (fun hv => prows_end HZ.out HL.out hlt hv)
      clear HL HF HX HR1
      go_wp2_with fail
      refine (rowsValid_any A' pre c' wr (Rd.of_own HO.out) hpm).mono ?_
      rintro e w1 ⟨rfl, b1⟩
      have HO1 := hide (own_call b1 HO.out)
      have HB1 := hide (HB.out.trans (b1.mono HB.out.size))
      clear b1 HO HB
      cases hv : rowsOk pre
      · have hg : gOpt zs = none := by rw [HG.out, hv]; rfl
        have HG' := hide hg
        clear hv hg HG
        go_wp2_with fail
        go_ret2
        rw [(grows_none HG'.out).1, (grows_none HG'.out).2]
        exact RetRowsB.nil HB1.out
      · have hg : gOpt zs = some pre := by rw [HG.out, hv]; rfl
        have HG' := hide hg
        have hpr := HP.out hv
        have HPR := hide hpr
        clear hv hg HG hpr
        go_wp2_with fail
        refine (putRows_any A' pre c' w1 (Rd.of_own HO1.out) hpm).mono ?_
        rw [HPR.out]
        rintro e w2 ⟨A2, c2, rfl, o2, b2⟩
        have HR2 := hide ((HR.out.below (HB1.out.trans (b2.mono HB1.out.size))).more (HB1.out.trans (b2.mono HB1.out.size)).size)
        have HQ2 := hide (Rd.of_own o2)
        have HO2 := hide (own_call b2 HO1.out)
        have HB2 := hide (HB1.out.trans (b2.mono HB1.out.size))
        clear o2 b2 HO1 HB1
        go_wp2_with fail
        refine (CEqual.equal_any A2 A zs zs c2 c _ _ w2 HQ2.out HR2.out HZ.out HZ.out).mono ?_
        rintro e w' ⟨rfl, rfl⟩
        rw [decide_eq_true rfl]
        go_wp2_with fail
        go_ret2
        rw [(grows_some HG'.out).1, (grows_some HG'.out).2]
        exact ⟨A', c', rfl, HO2.out, HB2.out⟩
set_option maxHeartbeats 4000000 in
theorem getRowsS_any (A : Option Addr) (zs : List Int) (c : Nat) (w : World) (hr : Rd w w.heap.size A (ints .u8 zs)) (hz : InR 0 255 zs) (hm : zs.length ≤ 1048576) (hc : zs.length ≤ c) :
    Calls Try.prog 80 #[.slice A zs.length c] w (RetRowsB (growsOf zs).1 (growsOf zs).2 w) := by
  obtain ⟨i0, hi, hz0, hz1, hz2⟩ := info_parts CRows.info
  have ho0 := World.ownsRow_lit (base := w.heap.size) (e := 31) (size := 2) w #[] 0 (Nat.le_refl _) (Nat.zero_le _) rfl
  have HO0 := hide (ho0.alloc (.cells #[.int .i64 0, .int .i64 0] 31))
  have hx0 := Box.new (w.alloc (.cells #[] 31)) 31 #[.int .i64 0, .int .i64 0]
  have hsz0 : (w.alloc (.cells #[] 31)).heap.size = w.heap.size + 1 := by simp
  rw [hsz0] at hx0
  have HX0 := hide hx0
  have HB0 : Hid (Below w.heap.size w ((w.alloc (.cells #[] 31)).alloc (.cells #[.int .i64 0, .int .i64 0] 31))) := (by repeat (first | exact Below.refl _ _ | with_reducible assumption | (refine Below.drew ?_) | (refine Below.drewN ?_ _) | (refine Below.alloc ?_ (by simp; try omega) _) | (refine Below.setCell ?_ (by simp; try omega) _)))
  have HS0 := hide (rel_start zs)
  have HR := hide hr
  have HZ := hide hz
  clear ho0 hx0 hsz0 hr hz
  go_enter Try.func80, Try.ntmps80
  go_wp2_with fail
  go_loopw [4, 6] (fun o at_ wr => ∃ (a : Nat) (A' : Option Addr) (l c' : Nat) (pre : List RD) (p : RD), at_ = .int .i64 a ∧ o = .slice A' l c' ∧ l = pre.length ∧ Rel zs a pre p ∧ wr.ownsRow w.heap.size 31 2 (.slice A' l c') l (cellsOf rowC pre) ∧ Fresh w.heap.size A' c' pre ∧ Box wr (w.heap.size + 1) 31 #[.int .i64 p.1, .int .i64 p.2] ∧ Below w.heap.size w wr) (fun _ i _ => zs.length - (intOf i).toNat)
  case atStart => exact ⟨0, _, 0, 0, [], (0, 0), rfl, rfl, rfl, HS0.out, HO0.out, .inl ⟨rfl, rfl, rfl⟩, HX0.out, HB0.out⟩
  case round =>
    obtain ⟨a, A', l, c', pre, p, rfl, rfl, hl, hrel, ho, hfr, hx, hb⟩ := hrel
    subst hl
    have HL := hide hrel
    have HO := hide ho
    have HF := hide hfr
    have HX := hide hx
    have HB := hide hb
    have HR1 := hide ((HR.out.below hb).more hb.size)
    obtain ⟨hal, hpl, pb0, pb1, pb2, pb3, _⟩ := hrel
    clear ho hfr hx hb HO0 HX0 HB0 HS0
    by_cases hlt : a < zs.length
    · rcases rel_cases HZ.out HL.out hlt with ⟨e1, hg⟩ | ⟨n, mid, e1, e2, hn, hmid, hg⟩ | ⟨n, mid, m, nx, e1, e2, hn, hmid, hmm, hi0, hg⟩ | ⟨n, mid, m, nx, e1, e2, hn, hmid, hmm, hi0, hanx, hnx, hrel'⟩
      · have HG := hide hg
        have H1 := hide e1
        have hu : inB (-1) 0 268435454 = false := rfl
        clear hg e1 HF HL
        go_wp2_with fail
        refine (getVarS_any A zs c a wr HR1.out HZ.out hm (by omega) (by omega)).mono ?_
        rw [H1.out]
        rintro e w1 ⟨rfl, b1⟩
        have HR2 := hide (((HR.out.below (HB.out.trans (b1.mono HB.out.size))).more (HB.out.trans (b1.mono HB.out.size)).size))
        have HO1 := hide (own_call b1 HO.out)
        have HX1 := hide (HX.out.call b1)
        have HB1 := hide (HB.out.trans (b1.mono HB.out.size))
        clear b1 HO HX HB HR1
        go_wp2_with fail
        refine (getVarS_any A zs c a w1 HR2.out HZ.out hm (by omega) (by omega)).mono ?_
        rw [H1.out]
        rintro e w2 ⟨rfl, b2⟩
        have HO2 := hide (own_call b2 HO1.out)
        have HX2 := hide (HX1.out.call b2)
        have HB2 := hide (HB1.out.trans (b2.mono HB1.out.size))
        clear b2 HO1 HX1 HB1 HR2
        go_wp2_with fail
        refine (unZigZagS_any (-1) _ (by omega) (by omega)).mono ?_
        rw [hu]
        rintro e w' ⟨rfl, rfl⟩
        go_wp2_with fail
        go_ret2
        rw [(grows_none HG.out).1, (grows_none HG.out).2]
        exact RetRowsB.empty HB2.out
      · have HG := hide hg
        have H1 := hide e1
        have H2 := hide e2
        have hu : inB (-1) 0 268435454 = false := rfl
        clear hg e1 e2 HF HL
        go_wp2_with fail
        refine (getVarS_any A zs c a wr HR1.out HZ.out hm (by omega) (by omega)).mono ?_
        rw [H1.out]
        rintro e w1 ⟨rfl, b1⟩
        have HR2 := hide (((HR.out.below (HB.out.trans (b1.mono HB.out.size))).more (HB.out.trans (b1.mono HB.out.size)).size))
        have HO1 := hide (own_call b1 HO.out)
        have HX1 := hide (HX.out.call b1)
        have HB1 := hide (HB.out.trans (b1.mono HB.out.size))
        clear b1 HO HX HB HR1
        go_wp2_with fail
        refine (getVarS_any A zs c mid w1 HR2.out HZ.out hm (by omega) (by omega)).mono ?_
        rw [H2.out]
        rintro e w2 ⟨rfl, b2⟩
        have HO2 := hide (own_call b2 HO1.out)
        have HX2 := hide (HX1.out.call b2)
        have HB2 := hide (HB1.out.trans (b2.mono HB1.out.size))
        clear b2 HO1 HX1 HB1 HR2
        go_wp2_with fail
        refine (unZigZagS_any (-1) _ (by omega) (by omega)).mono ?_
        rw [hu]
        rintro e w' ⟨rfl, rfl⟩
        go_wp2_with fail
        go_ret2
        rw [(grows_none HG.out).1, (grows_none HG.out).2]
        exact RetRowsB.empty HB2.out
      · have HG := hide hg
        have H1 := hide e1
        have H2 := hide e2
        have HU := hide hi0
        clear hg e1 e2 HF HL hi0
        go_wp2_with fail
        refine (getVarS_any A zs c a wr HR1.out HZ.out hm (by omega) (by omega)).mono ?_
        rw [H1.out]
        rintro e w1 ⟨rfl, b1⟩
        have HR2 := hide (((HR.out.below (HB.out.trans (b1.mono HB.out.size))).more (HB.out.trans (b1.mono HB.out.size)).size))
        have HO1 := hide (own_call b1 HO.out)
        have HX1 := hide (HX.out.call b1)
        have HB1 := hide (HB.out.trans (b1.mono HB.out.size))
        clear b1 HO HX HB HR1
        go_wp2_with fail
        refine (getVarS_any A zs c mid w1 HR2.out HZ.out hm (by omega) (by omega)).mono ?_
        rw [H2.out]
        rintro e w2 ⟨rfl, b2⟩
        have HO2 := hide (own_call b2 HO1.out)
        have HX2 := hide (HX1.out.call b2)
        have HB2 := hide (HB1.out.trans (b2.mono HB1.out.size))
        clear b2 HO1 HX1 HB1 HR2
        go_wp2_with fail
        refine (unZigZagS_any m _ (by omega) (by omega)).mono ?_
        rw [HU.out]
        rintro e w' ⟨rfl, rfl⟩
        go_wp2_with fail
        go_ret2
        rw [(grows_none HG.out).1, (grows_none HG.out).2]
        exact RetRowsB.empty HB2.out
      · have H1 := hide e1
        have H2 := hide e2
        have HU := hide hi0
        have HRel := hide hrel'
        obtain ⟨ub0, ub1⟩ := unzig_bd (m : Int)
        clear e1 e2 HL hi0 hrel'
        generalize hu : unzig (m : Int) = ln at *
        have HUL := hide hu
        clear hu
        have hne := HF.out.ne
        have HNE := hide hne
        clear hne
        go_wp2_with fail
        refine (getVarS_any A zs c a wr HR1.out HZ.out hm (by omega) (by omega)).mono ?_
        rw [H1.out]
        rintro e w1 ⟨rfl, b1⟩
        have HR2 := hide (((HR.out.below (HB.out.trans (b1.mono HB.out.size))).more (HB.out.trans (b1.mono HB.out.size)).size))
        have HO1 := hide (own_call b1 HO.out)
        have HX1 := hide (HX.out.call b1)
        have HB1 := hide (HB.out.trans (b1.mono HB.out.size))
        clear b1 HO HX HB HR1
        go_wp2_with fail
        refine (getVarS_any A zs c mid w1 HR2.out HZ.out hm (by omega) (by omega)).mono ?_
        rw [H2.out]
        rintro e w2 ⟨rfl, b2⟩
        have HO2 := hide (own_call b2 HO1.out)
        have HX2 := hide (HX1.out.call b2)
        have HB2 := hide (HB1.out.trans (b2.mono HB1.out.size))
        clear b2 HO1 HX1 HB1 HR2
        go_wp2_with fail
        refine (unZigZagS_any m _ (by omega) (by omega)).mono ?_
        rw [HU.out, HUL.out]
        rintro e w' ⟨rfl, rfl⟩
        have q0 := HX2.out.cell 0
        have q1 := HX2.out.cell 1
        have f0 := HX2.out.frozen 0
        have f1 := HX2.out.frozen 1
        simp only [List.getElem?_toArray, List.getElem?_cons_zero, List.getElem?_cons_succ] at q0 q1
        have hX := HX2.out.lt
        have HO3 := hide (own_setFar (own_setFar HO2.out (a := ⟨w.heap.size + 1, 0, none⟩) HNE.out (.int .i64 (p.1 + n))) (a := ⟨w.heap.size + 1, 1, none⟩) HNE.out (.int .i64 (p.2 + ln)))
        have hX3 := (HX2.out.set 0 (.int .i64 (p.1 + n))).set 1 (.int .i64 (p.2 + ln))
        simp only [List.setIfInBounds_toArray, List.set_cons_zero, List.set_cons_succ] at hX3
        have HX3 := hide hX3
        have HB3 := hide ((HB2.out.setCell (p := ⟨w.heap.size + 1, 0, none⟩) (by show w.heap.size ≤ w.heap.size + 1; omega) (.int .i64 (p.1 + n))).setCell (p := ⟨w.heap.size + 1, 1, none⟩) (by show w.heap.size ≤ w.heap.size + 1; omega) (.int .i64 (p.2 + ln)))
        have hs3 : w.heap.size + 2 ≤ ((w2.setCell ⟨w.heap.size + 1, 0, none⟩ (.int .i64 (p.1 + n))).setCell ⟨w.heap.size + 1, 1, none⟩ (.int .i64 (p.2 + ln))).heap.size := by simp; omega
        clear HO2 HX2 HB2 hX3
        rcases HF.out with ⟨rfl, rfl, rfl⟩ | hfr
        · clear HF HNE
          go_wp2_with (at_builtin; refine wpList_app1Gk _ rfl (.tmp 56) (.tmp 58) 27 rfl 31 i0 (.agg #[.int .i64 0, .int .i64 0]) 2 16 Try.underlying27 hi hz0 hz1 hz2 rfl (by decide) _ _ rfl (by simp) rfl one2 _ rfl (by omega) ?_)
          intro A6 n6 c6 w6 hn6 o6 g6
          subst hn6
          have hb6 := HB3.out.alloc HB3.out.size (.cells #[.int .i64 (p.1 + n), .int .i64 (p.2 + ln)] 31)
          have HB6 := hide (hb6.grown g6 hb6.size (fun k hk => by cases hk))
          have HX6 := hide ((HX3.out.alloc (.cells #[.int .i64 (p.1 + n), .int .i64 (p.2 + ln)] 31)).grown g6 (fun k hk => by cases hk))
          have hbb := HB3.out.size
          have HO6 := hide (own_base (base' := w.heap.size) o6 (by first | omega | (simp at hbb ⊢; omega)))
          clear hbb
          have HF6 := hide (show Fresh w.heap.size A6 c6 ([] ++ [(p.1 + (n : Int), p.2 + ln)]) from .inr (fun k hk => by have := (o6.lt k hk).1; omega))
          clear o6 g6 hb6 HO3 HX3 HB3 q0 q1 f0 f1
          go_wp2_with fail
          exact ⟨⟨nx, A6, 1, c6, [] ++ [(p.1 + (n : Int), p.2 + ln)], (p.1 + (n : Int), p.2 + ln), by go_num, rfl, rfl, HRel.out, HO6.out, HF6.out, HX6.out, HB6.out⟩, by simp [intOf]; omega⟩
        · have HOR := hide (own_raise HO3.out hfr)
          clear HF HNE hfr HO3
          go_wp2_with (at_builtin; refine wpList_app1k _ rfl (.tmp 56) (.tmp 58) 27 rfl (w.heap.size + 2) 31 i0 (.agg #[.int .i64 0, .int .i64 0]) 2 16 Try.underlying27 hi hz0 hz1 hz2 rfl (by decide) _ _ rfl (by simp) rfl one2 _ _ _ rfl HOR.out ?n1 ?n2 hs3 ?_)
          case n1 => unfold maxLen; omega
          case n2 => omega
          intro A6 n6 c6 w6 hn6 o6 g6
          subst hn6
          have HB6 := hide (HB3.out.grown g6 HB3.out.size (fun k hk => Nat.le_trans (by omega) (HOR.out.lt k hk).1))
          have HX6 := hide (HX3.out.grown g6 (fun k hk => by have := (HOR.out.lt k hk).1; omega))
          have HO6 := hide (own_base o6 (show w.heap.size ≤ w.heap.size + 2 by omega))
          have HF6 := hide (show Fresh w.heap.size A6 c6 (pre ++ [(p.1 + (n : Int), p.2 + ln)]) from .inr (fun k hk => (o6.lt k (by simpa using hk)).1))
          clear o6 g6 HOR HX3 HB3 q0 q1 f0 f1
          go_wp2_with fail
          exact ⟨⟨nx, A6, pre.length + 1, c6, pre ++ [(p.1 + (n : Int), p.2 + ln)], (p.1 + (n : Int), p.2 + ln), by go_num, rfl, by simp, HRel.out, by simpa [cellsOf, rowC] using HO6.out, HF6.out, HX6.out, HB6.out⟩, by simp [intOf]; omega⟩
    · have HG := hide (gOpt_end HL.out hlt)
      have hpm : pre.length ≤ maxLen := by unfold maxLen; omega
      clear HL HF HX HR1
      go_wp2_with fail
      refine (rowsValidS_any A' pre c' wr (Rd.of_own HO.out) hpm).mono ?_
      rintro e w1 ⟨rfl, b1⟩
      have HO1 := hide (own_call b1 HO.out)
      have HB1 := hide (HB.out.trans (b1.mono HB.out.size))
      clear b1 HO HB
      cases hv : rowsOk pre
      · have hg : gOpt zs = none := by rw [HG.out, hv]; rfl
        have HG' := hide hg
        clear hv hg HG
        go_wp2_with fail
        go_ret2
        rw [(grows_none HG'.out).1, (grows_none HG'.out).2]
        exact RetRowsB.empty HB1.out
      · have hg : gOpt zs = some pre := by rw [HG.out, hv]; rfl
        have HG' := hide hg
        clear hv hg HG
        go_wp2_with fail
        go_ret2
        rw [(grows_some HG'.out).1, (grows_some HG'.out).2]
        exact ⟨A', c', rfl, HO1.out, HB1.out⟩
end Go.Proofs.Ytndnmbhhfiacaaa.CGetRows
